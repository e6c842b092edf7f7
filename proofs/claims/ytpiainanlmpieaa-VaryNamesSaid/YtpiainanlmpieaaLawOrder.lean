/- VaryOrder holds of every two numbers: their bytes stand in order as they do, none's are the beginning of another's, a greater one is no less wide. No condition. -/
import Derived.Test.YtpiainanlmpieaaVc
import Derived.Test.YtpiainanlmpieaaVo
import Derived.Test.YtpiainanlmpieaaRows
import Derived.WalkKit
import Derived.ProofKit
import Derived.OpenShut
import Derived.ShutString
import Derived.ChangeOld
import Derived.Below
namespace Go.Proofs.Ytpiainanlmpieaa
open Go.RowKit Go.Shelf Go.Proofs.YtpiainanlmpieaaW.PrintWords Go.Proofs.YtpiainanlmpieaaW.PrintLast Go.Proofs.YtpiainanlmpieaaW.PrintMore

theorem numStr_list (a : Int) : (numStr a).data.toList = (VP.enc a.toNat).map UInt8.ofNat := by
  show ((encI a.toNat).map fun n => UInt8.ofNat n.toNat) = _
  unfold encI
  rw [List.map_map]
  rfl
theorem numStr_toList (a : Int) : (numStr a).toList = (VP.enc a.toNat).map UInt8.ofNat := by rw [Lib.toList_data, numStr_list]
theorem numStr_size (a : Int) : (numStr a).size = VP.wid a.toNat := by
  have : (numStr a).size = (numStr a).data.toList.length := by rw [Array.length_toList]; rfl
  rw [this, numStr_list, List.length_map, VP.enc_length]

theorem bytesLess_map : ∀ (x y : List Nat), (∀ b ∈ x, b < 256) → (∀ b ∈ y, b < 256) → Op.bytesLess (x.map UInt8.ofNat) (y.map UInt8.ofNat) = VP.lessN x y
  | _, [], _, _ => by simp [Op.bytesLess, VP.lessN]
  | [], _ :: _, _, _ => by simp [Op.bytesLess, VP.lessN]
  | a :: x, b :: y, hx, hy => by
    have ha := hx a (by simp)
    have hb := hy b (by simp)
    simp only [List.map_cons, Op.bytesLess, VP.lessN]
    rw [bytesLess_map x y (fun b h => hx b (by simp [h])) (fun b h => hy b (by simp [h]))]
    have e1 : decide (UInt8.ofNat a < UInt8.ofNat b) = decide (a < b) := by
      rw [decide_eq_decide, UInt8.lt_iff_toNat_lt, UInt8.toNat_ofNat', UInt8.toNat_ofNat', Nat.mod_eq_of_lt ha, Nat.mod_eq_of_lt hb]
    have e2 : (UInt8.ofNat a == UInt8.ofNat b) = (a == b) := by
      rw [Bool.eq_iff_iff]
      simp only [beq_iff_eq]
      constructor
      · intro h
        have := congrArg UInt8.toNat h
        rwa [UInt8.toNat_ofNat', UInt8.toNat_ofNat', Nat.mod_eq_of_lt ha, Nat.mod_eq_of_lt hb] at this
      · rintro rfl; rfl
    rw [e1, e2]

theorem map_prefix {x y : List Nat} (hx : ∀ b ∈ x, b < 256) (hy : ∀ b ∈ y, b < 256) : (x.map UInt8.ofNat).isPrefixOf (y.map UInt8.ofNat) = x.isPrefixOf y := by
  induction x generalizing y with
  | nil => cases y <;> simp
  | cons a x ih =>
    cases y with
    | nil => simp
    | cons b y =>
      simp only [List.map_cons, List.isPrefixOf]
      rw [ih (fun b h => hx b (by simp [h])) (fun b h => hy b (by simp [h]))]
      have ha := hx a (by simp)
      have hb := hy b (by simp)
      have e2 : (UInt8.ofNat a == UInt8.ofNat b) = (a == b) := by
        rw [Bool.eq_iff_iff]
        simp only [beq_iff_eq]
        constructor
        · intro h
          have := congrArg UInt8.toNat h
          rwa [UInt8.toNat_ofNat', UInt8.toNat_ofNat', Nat.mod_eq_of_lt ha, Nat.mod_eq_of_lt hb] at this
        · rintro rfl; rfl
      rw [e2]

theorem numStr_less {a b : Int} (ha : 0 ≤ a ∧ a ≤ 18446744073709551615) (hb : 0 ≤ b ∧ b ≤ 18446744073709551615) : Op.bytesLess (numStr a).toList (numStr b).toList = decide (a < b) := by
  rw [numStr_toList, numStr_toList, bytesLess_map _ _ (VP.enc_lt _ (by omega)) (VP.enc_lt _ (by omega)), VP.enc_less _ _ (by omega) (by omega), decide_eq_decide]
  omega
theorem numStr_begins {a b : Int} (ha : 0 ≤ a ∧ a ≤ 18446744073709551615) (hb : 0 ≤ b ∧ b ≤ 18446744073709551615) : Lib.hasPrefix (numStr b).data.toList (numStr a).data.toList = (a == b) := by
  unfold Lib.hasPrefix
  rw [numStr_list, numStr_list, map_prefix (VP.enc_lt _ (by omega)) (VP.enc_lt _ (by omega)), Bool.eq_iff_iff, List.isPrefixOf_iff_prefix, VP.enc_begins _ _ (by omega) (by omega)]
  simp only [beq_iff_eq]
  omega

theorem Width_int (a : Int) (h0 : 0 ≤ a) (h1 : a ≤ 18446744073709551615) (w : World) :
    Calls Try.prog 13 #[.int .u64 a] w fun e w' => e = .returned (.int .i64 (VP.wid a.toNat)) ∧ w = w' := by
  obtain ⟨n, rfl⟩ := Int.eq_ofNat_of_zero_le h0
  exact Width_any n (by omega) w

set_option maxHeartbeats 1000000 in
theorem order_walk (a0 : Int) (a1 : Int) (w0 : (Lit.int .u64 a0).wf = true) (w1 : (Lit.int .u64 a1).wf = true) (w : World) :
    Calls Try.prog 3 #[.int .u64 a0, .int .u64 a1] w fun e w' => e = .returned (.bool true) ∧ Below w.heap.size w w' := by
  have b0 := Go.bounds_u64 w0
  have b1 := Go.bounds_u64 w1
  have L := Lib.hid (numStr_less b0 b1)
  have B := Lib.hid (numStr_begins b0 b1)
  have S0 := Lib.hid (numStr_size a0)
  have S1 := Lib.hid (numStr_size a1)
  have M := Lib.hid (fun h => @VP.wid_mono a0.toNat a1.toNat h)
  clear w0 w1
  go_enter Try.func3, Try.ntmps3
  go_wp2_with fail
  refine (alive_any _).mono ?_
  rintro e v1 ⟨rfl, hb1⟩
  go_wp2_with fail
  refine (number_any a0 b0.1 b0.2 _).mono ?_
  rintro e v2 ⟨rfl, hb2⟩
  go_wp2_with fail
  refine (number_any a1 b1.1 b1.2 _).mono ?_
  rintro e v3 ⟨rfl, hb3⟩
  go_wp2_with fail
  refine (Try.strings_HasPrefix _ _ _).mono ?_
  rintro e v4 ⟨rfl, rfl⟩
  rw [B.out]
  have l := L.out
  have s0 := S0.out
  have s1 := S1.out
  go_wp2_with (go_at_call 13; refine (Width_int a0 b0.1 b0.2 _).mono ?_; rintro e w' ⟨rfl, rfl⟩)
  all_goals
    go_ret
    refine ⟨?_, below_then hb1 hb1.size (below_then hb2 hb2.size hb3)⟩
    first
      | rfl
      | exact congrArg (fun b => Ending.returned (.bool b)) (by simp; assumption)
      | exact absurd (Or.inr (M.out (by omega))) ‹_›
end Go.Proofs.Ytpiainanlmpieaa
