/- Contracts: Tape.All, number, alive. -/
import Derived.Test.YtamagdnlicnefaaDoorVb
namespace Go.Proofs.YtamagdnlicnefaaDoor
open Go.RowKit Go.Shelf Go.Proofs.YtamagdnlicnefaaDoorW.PrintWords Go.Proofs.YtamagdnlicnefaaDoorW.PrintLast Go.Proofs.YtamagdnlicnefaaDoorW.PrintMore

set_option maxHeartbeats 1000000 in
theorem TAll_any (w : World) (g base : Nat) (v : Value) (xs : List Int) (hT : TapeIs w g base v xs) (hlen : xs.length ≤ 140737488355328) :
    Calls Tryd.prog 30 #[.pointer (some ⟨g, 0, none⟩)] w fun e w' => ∃ u, e = .returned u ∧ w'.ownsRow w.heap.size 5 1 u xs.length (nums .u8 xs) ∧ Below w.heap.size w w' := by
  have hc : w.cell? ⟨g, 0, none⟩ = some v := blk_cell hT.blk 0
  rcases hT.own.2 with ⟨rfl, h0⟩ | ⟨b, cap, cur, rfl, hb, hgb, _⟩
  · obtain rfl : xs = [] := List.eq_nil_of_length_eq_zero h0
    go_enter Tryd.func30, Tryd.ntmps30
    go_wp2_with (go_at_call 32; refine (Tryd.bytes_Clone_nil _ _ _).mono ?_; rintro e w' ⟨rfl, rfl⟩)
    go_ret
    exact ⟨_, rfl, World.ownsRow_nil _ _ _ _, Below.refl _ _⟩
  · have hcells : ∀ i, i < xs.length → w.cell? ((⟨b, 0, none⟩ : Addr).add i) = some (.int .u8 (xs.getD i 0)) := fun i hi => by
      have h := hT.own.cells (g := b) rfl i (.int .u8 (xs.getD i 0)) (by simp [nums, List.getElem?_eq_getElem (show i < xs.length by omega), List.getD_eq_getElem?_getD])
      exact h
    have HC := Lib.hid hcells
    clear hcells hgb
    go_enter Tryd.func30, Tryd.ntmps30
    go_wp2_with (go_at_call 32; refine (Tryd.bytes_Clone_at _ _ _ xs _ rfl hlen HC.out).mono ?_; rintro e w' ⟨u, rfl, h1, h2, h3⟩)
    go_ret
    exact ⟨_, rfl, h1, h3⟩

/-- A number's bytes, as a string. -/
def numStr (a : Int) : ByteArray := strOfNums (encI a.toNat)

theorem Zig_m1 (w : World) : Calls Tryd.prog 49 #[.int .i64 (-1)] w fun e w' => e = .returned (.int .u64 1) ∧ w = w' := by
  have h : Go.bits .xor .u64 (IntKind.u64.wrap ((IntKind.u64.wrap (-1)) * 2)) (IntKind.u64.wrap (-1 / 9223372036854775808)) = 1 := by decide +kernel
  go_enter Tryd.func49, Tryd.ntmps49
  go_wp2
  go_ret
  refine ⟨ret_int ?_, rfl⟩
  decide +kernel

end Go.Proofs.YtamagdnlicnefaaDoor
