/- New's check of its shapes. -/
import Derived.Test.YtnomjjhocblkkaaJa
namespace Go.Proofs.Ytnomjjhocblkkaa
open Go.RowKit Go.Shelf Go.Proofs.YtnomjjhocblkkaaW.PrintWords Go.Proofs.YtnomjjhocblkkaaW.PrintLast Go.Proofs.YtnomjjhocblkkaaW.PrintMore
open Go.Proofs.Ytnomjjhocblkkaa.PHeapSound

theorem c31_any (w : World) (A : Option Addr) (c : Nat) (xs : List Int) (hC : (Kd.int .i64).C w A xs.length xs) :
    Calls Try.prog 31 #[.slice A xs.length c] w fun e w' => e = .returned (.bool (!shapeOk xs)) ∧ Below w.heap.size w w' := by
  have HI := Lib.hid (Check32_any w A c xs hC)
  clear hC
  cases h : shapeOk xs <;>
  · rw [h] at HI
    clear h
    go_enter Try.func31, Try.ntmps31
    go_wp2_with (go_at_call 32; refine HI.out.mono ?_; rintro e w3 ⟨rfl, hb3⟩; have HB3 := Lib.hid hb3; clear hb3)
    go_ret
    exact ⟨rfl, HB3.out⟩

theorem rdL1_mem {l : List (List Int)} {k : Nat} (h : k < l.length) : l[k]? = some (rd_L1 l k) := by
  unfold rd_L1
  rw [List.getD_eq_getElem?_getD, Int.toNat_natCast, List.getElem?_eq_getElem h]; rfl

set_option maxRecDepth 100000 in
set_option maxHeartbeats 1000000 in
theorem idx54_any (w : World) (A : Option Addr) (c : Nat) (l : List (List Int)) (hC : (Kd.slice 3 (Kd.int .i64)).C w A l.length l) (hn : l.length ≤ 64) :
    Calls Try.prog 54 #[.slice A l.length c, .func (.func 31) #[] #[]] w fun e w' => (∃ i : Int, e = .returned (.int .i64 i) ∧ (decide (0 ≤ i) = !l.all shapeOk)) ∧ Below w.heap.size w w' := by
  have HC := Lib.hid hC
  clear hC
  go_enter Try.func54, Try.ntmps54
  go_wp2
  go_loopw [8] (fun i W => ∃ k : Nat, i = .int .i64 k ∧ k ≤ l.length ∧ Aside0 (∀ x ∈ l.take k, shapeOk x = true) ∧ Aside0 (Below w.heap.size w W)) (fun i _ => l.length - (intOf i).toNat)
  case atStart => exact ⟨0, rfl, by omega, Aside0.mk (by simp), Aside0.mk (Below.refl _ _)⟩
  case round =>
    obtain ⟨k, rfl, hk, HA, HB⟩ := hrel
    by_cases hlt : k < l.length
    · have hlt2 : (k : Int) < (l.length : Int) := by omega
      obtain ⟨ae, Ae, ce, rfl, e1, hce, hCe⟩ := at_L1 (Kd.C_below HC.out HB.out) (k : Int) (by omega) (by omega)
      rw [Int.toNat_natCast] at e1
      have HR := Lib.hid (rdL1_mem hlt)
      have HH := Lib.hid (c31_any wr Ae ce (rd_L1 l k) hCe)
      clear hCe hce
      generalize rd_L1 l k = x at *
      cases hx : shapeOk x with
      | true =>
        rw [hx] at HH
        have HX := Lib.hid hx
        clear hx hk hlt
        go_wp2_with (go_at_call 31; refine HH.out.mono ?_; rintro e w3 ⟨rfl, hb3⟩; have HB3 := Lib.hid (below_step HB.out hb3); clear hb3)
        refine ⟨⟨k + 1, rfl, by omega, Aside0.mk (fun y hy => ?_), Aside0.mk HB3.out⟩, ?_⟩
        · rw [List.take_add_one, HR.out] at hy
          rcases List.mem_append.1 hy with h1 | h1
          · exact HA.out y h1
          · have h2 : y = x := by simpa using h1
            rw [h2]; exact HX.out
        · show l.length - ((k : Int) + 1).toNat < l.length - (k : Int).toNat
          omega
      | false =>
        rw [hx] at HH
        have HX := Lib.hid hx
        clear hx hk hlt
        go_wp2_with (go_at_call 31; refine HH.out.mono ?_; rintro e w3 ⟨rfl, hb3⟩; have HB3 := Lib.hid (below_step HB.out hb3); clear hb3)
        go_ret
        refine ⟨⟨_, rfl, ?_⟩, HB3.out⟩
        have : l.all shapeOk = false := by
          rw [Bool.eq_false_iff]; intro h
          have := List.all_eq_true.1 h x (List.mem_of_getElem? HR.out)
          rw [HX.out] at this; cases this
        rw [this]; simp
    · obtain rfl : k = l.length := by omega
      go_wp2
      go_ret
      refine ⟨⟨_, rfl, ?_⟩, HB.out⟩
      have h := HA.out
      rw [List.take_length] at h
      rw [List.all_eq_true.2 h]; rfl

theorem has33_any (w : World) (A : Option Addr) (c : Nat) (l : List (List Int)) (hC : (Kd.slice 3 (Kd.int .i64)).C w A l.length l) (hn : l.length ≤ 64) :
    Calls Try.prog 33 #[.slice A l.length c, .func (.func 31) #[] #[]] w fun e w' => e = .returned (.bool (!l.all shapeOk)) ∧ Below w.heap.size w w' := by
  have HI := Lib.hid (idx54_any w A c l hC hn)
  clear hC hn
  generalize l.all shapeOk = r at *
  go_enter Try.func33, Try.ntmps33
  go_wp2_with (go_at_call 54; refine HI.out.mono ?_; rintro e w3 ⟨⟨i, rfl, hi⟩, hb3⟩; have HI3 := Lib.hid hi; have HB3 := Lib.hid hb3; clear hi hb3)
  go_ret
  exact ⟨by rw [← HI3.out]; rfl, HB3.out⟩
end Go.Proofs.Ytnomjjhocblkkaa
