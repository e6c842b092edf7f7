/- Contracts: Tape.All, number, alive. -/
import Derived.Test.YtpiainanlmpieaaVb
namespace Go.Proofs.Ytpiainanlmpieaa
open Go.RowKit Go.Shelf Go.Proofs.YtpiainanlmpieaaW.PrintWords Go.Proofs.YtpiainanlmpieaaW.PrintLast Go.Proofs.YtpiainanlmpieaaW.PrintMore

set_option maxHeartbeats 1000000 in
theorem TAll_any (w : World) (g base : Nat) (v : Value) (xs : List Int) (hT : TapeIs w g base v xs) (hlen : xs.length ≤ 140737488355328) :
    Calls Try.prog 26 #[.pointer (some ⟨g, 0, none⟩)] w fun e w' => ∃ u, e = .returned u ∧ w'.ownsRow w.heap.size 5 1 u xs.length (nums .u8 xs) ∧ Below w.heap.size w w' := by
  have hc : w.cell? ⟨g, 0, none⟩ = some v := blk_cell hT.blk 0
  rcases hT.own.2 with ⟨rfl, h0⟩ | ⟨b, cap, cur, rfl, hb, hgb, _⟩
  · obtain rfl : xs = [] := List.eq_nil_of_length_eq_zero h0
    go_enter Try.func26, Try.ntmps26
    go_wp2_with (go_at_call 45; refine (Try.bytes_Clone_nil _ _ _).mono ?_; rintro e w' ⟨rfl, rfl⟩)
    go_ret
    exact ⟨_, rfl, World.ownsRow_nil _ _ _ _, Below.refl _ _⟩
  · have hcells : ∀ i, i < xs.length → w.cell? ((⟨b, 0, none⟩ : Addr).add i) = some (.int .u8 (xs.getD i 0)) := fun i hi => by
      have h := hT.own.cells (g := b) rfl i (.int .u8 (xs.getD i 0)) (by simp [nums, List.getElem?_eq_getElem (show i < xs.length by omega), List.getD_eq_getElem?_getD])
      exact h
    have HC := Lib.hid hcells
    clear hcells hgb
    go_enter Try.func26, Try.ntmps26
    go_wp2_with (go_at_call 45; refine (Try.bytes_Clone_at _ _ _ xs _ rfl hlen HC.out).mono ?_; rintro e w' ⟨u, rfl, h1, h2, h3⟩)
    go_ret
    exact ⟨_, rfl, h1, h3⟩

/-- A number's bytes, as a string. -/
def numStr (a : Int) : ByteArray := strOfNums (encI a.toNat)

set_option maxHeartbeats 1000000 in
theorem number_any (a : Int) (h0 : 0 ≤ a) (h1 : a ≤ 18446744073709551615) (w : World) :
    Calls Try.prog 11 #[.int .u64 a] w fun e w' => e = .returned (.string (numStr a)) ∧ Below w.heap.size w w' := by
  obtain ⟨n, rfl⟩ := Int.eq_ofNat_of_zero_le h0
  go_enter Try.func11, Try.ntmps11
  go_wp2_with fail
  have hT : TapeIs (w.alloc (.cells #[.slice none 0 0] 32)) w.heap.size (w.heap.size) (.slice none 0 0) [] := ⟨World.alloc_heap_new _ _, World.ownsRow_nil _ _ _ _⟩
  refine (TNumber_any _ _ w.heap.size n _ [] (by omega) hT (by simp) (by simp)).mono ?_
  rintro e w1 ⟨rfl, ⟨v, hT1, _⟩, hF⟩
  go_wp2_with fail
  refine (TAll_any _ _ _ _ _ hT1 (by rw [List.nil_append, encI_length]; have := VP.wid_pos n; omega)).mono ?_
  rintro e w2 ⟨u, rfl, ho, hb⟩
  have hcv := own_string (P := Try.prog) (src := 30) (dst := 9) (e := 5) Try.underlying30 Try.underlying5 Try.underlying9 ho
  go_wp2
  go_ret
  refine ⟨by simp [numStr], ?_⟩
  have hsz := hF.size
  simp at hsz
  refine Below.trans ?_ (hb.mono (by omega))
  refine Below.trans ((Below.refl _ w).alloc (Nat.le_refl _) _) (hF.below (by simp) (fun i hi h => ?_))
  rcases h with rfl | h
  · omega
  · simp [Value.ownBlock] at h

theorem Zig_m1 (w : World) : Calls Try.prog 17 #[.int .i64 (-1)] w fun e w' => e = .returned (.int .u64 1) ∧ w = w' := by
  have h : Go.bits .xor .u64 (IntKind.u64.wrap ((IntKind.u64.wrap (-1)) * 2)) (IntKind.u64.wrap (-1 / 9223372036854775808)) = 1 := by decide +kernel
  go_enter Try.func17, Try.ntmps17
  go_wp2
  go_ret
  refine ⟨ret_int ?_, rfl⟩
  decide +kernel

set_option maxHeartbeats 1000000 in
theorem alive_any (w : World) : Calls Try.prog 10 #[] w fun e w' => e = .returned (.bool true) ∧ Below w.heap.size w w' := by
  have a0 : (numStr 0).toList = [0] := by decide +kernel
  have a1 : (numStr 127).toList = [127] := by decide +kernel
  have a2 : (numStr 128).toList = [128, 128] := by decide +kernel
  have a3 : (numStr 300).toList = [129, 44] := by decide +kernel
  have a4 : (numStr 16384).toList = [192, 64, 0] := by decide +kernel
  go_enter Try.func10, Try.ntmps10
  go_wp2_with fail
  refine (number_any 0 (by omega) (by omega) _).mono ?_
  rintro e w1 ⟨rfl, hb1⟩
  go_wp2_with fail
  refine (number_any 127 (by omega) (by omega) _).mono ?_
  rintro e w2 ⟨rfl, hb2⟩
  go_wp2_with fail
  refine (number_any 128 (by omega) (by omega) _).mono ?_
  rintro e w3 ⟨rfl, hb3⟩
  go_wp2_with fail
  refine (number_any 300 (by omega) (by omega) _).mono ?_
  rintro e w4 ⟨rfl, hb4⟩
  go_wp2_with fail
  refine (number_any 16384 (by omega) (by omega) _).mono ?_
  rintro e w5 ⟨rfl, hb5⟩
  go_wp2_with fail
  refine (Zig_m1 _).mono ?_
  rintro e w6 ⟨rfl, rfl⟩
  go_wp2
  go_ret
  exact ⟨rfl, hb1.trans ((hb2.mono hb1.size).trans ((hb3.mono (Nat.le_trans hb1.size hb2.size)).trans ((hb4.mono (Nat.le_trans (Nat.le_trans hb1.size hb2.size) hb3.size)).trans (hb5.mono (Nat.le_trans (Nat.le_trans (Nat.le_trans hb1.size hb2.size) hb3.size) hb4.size)))))⟩
end Go.Proofs.Ytpiainanlmpieaa
