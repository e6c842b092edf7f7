/- End of both Reels, as quiet calls. -/
import Derived.Test.YtpiainanlmpieaaVr
namespace Go.Proofs.Ytpiainanlmpieaa
open Go.RowKit Go.Shelf Go.Proofs.YtpiainanlmpieaaW.PrintWords Go.Proofs.YtpiainanlmpieaaW.PrintLast Go.Proofs.YtpiainanlmpieaaW.PrintMore

theorem End_drawn (w : World) (g base : Nat) (v : Value) (bs : List Int) (p : Nat) (hR : ReelIs w g base v bs p) :
    Calls Try.prog 37 #[.pointer (some ⟨g, 0, none⟩)] w fun e w' => e = .returned (.int .i64 (if p < bs.length then 13 else 0)) ∧ ∃ m, w' = w.drewN m := by
  have hc0 : w.cell? ⟨g, 0, none⟩ = some v := blk_cell hR.blk 0
  have hc1 : w.cell? ⟨g, 1, none⟩ = some (.int .i64 p) := blk_cell hR.blk 1
  have hs := hR.small
  obtain ⟨A, c, rfl⟩ := own_slice hR.own
  by_cases h : p < bs.length
  · rw [if_pos h]
    have h' : decide (p < bs.length) = true := decide_eq_true h
    have h2 : decide ((p : Int) < (bs.length : Int)) = true := by simp; omega
    go_enter Try.func37, Try.ntmps37
    go_wp2
    go_quiet (fail)
    go_wp2
    go_ret
    exact ⟨rfl, _, rfl⟩
  · rw [if_neg h]
    have h' : decide (p < bs.length) = false := decide_eq_false h
    have h2 : decide ((p : Int) < (bs.length : Int)) = false := by simp; omega
    go_enter Try.func37, Try.ntmps37
    go_wp2
    go_quiet (fail)
    go_wp2
    go_ret
    exact ⟨rfl, _, rfl⟩


theorem RefEnd_drawn (w : World) (g base : Nat) (v : Value) (bs : List Int) (p : Nat) (hR : RefIs w g base v bs p) :
    Calls Try.prog 38 #[.pointer (some ⟨g, 0, none⟩)] w fun e w' => e = .returned (.int .i64 (if p < bs.length then 13 else 0)) ∧ ∃ m, w' = w.drewN m := by
  obtain ⟨hc0, hc1⟩ := hR.cells
  have hs := hR.small
  obtain ⟨A, c, rfl⟩ := own_slice hR.own
  by_cases h : p < bs.length
  · rw [if_pos h]
    have h' : decide (p < bs.length) = true := decide_eq_true h
    have h2 : decide ((p : Int) < (bs.length : Int)) = true := by simp; omega
    go_enter Try.func38, Try.ntmps38
    go_wp2
    go_quiet (fail)
    go_wp2
    go_ret
    exact ⟨rfl, _, rfl⟩
  · rw [if_neg h]
    have h' : decide (p < bs.length) = false := decide_eq_false h
    have h2 : decide ((p : Int) < (bs.length : Int)) = false := by simp; omega
    go_enter Try.func38, Try.ntmps38
    go_wp2
    go_quiet (fail)
    go_wp2
    go_ret
    exact ⟨rfl, _, rfl⟩

end Go.Proofs.Ytpiainanlmpieaa
