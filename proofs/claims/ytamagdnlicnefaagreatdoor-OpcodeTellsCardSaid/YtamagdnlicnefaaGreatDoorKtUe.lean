/- Opcode: the document's side, plain: the number that a text is. -/
import Derived.Test.YtamagdnlicnefaaGreatDoorKtUd
namespace Go.Proofs.YtamagdnlicnefaaGreatDoor
open Go.RowKit Go.Shelf Go.Proofs.YtamagdnlicnefaaGreatDoorW.PrintWords Go.Proofs.YtamagdnlicnefaaGreatDoorW.PrintLast Go.Proofs.YtamagdnlicnefaaGreatDoorW.PrintMore
open Go.Proofs.YtamagdnlicnefaaGreatDoor.PRef

theorem num_step (acc c : Nat) (ha : acc < 18446744073709551616) (h1 : 48 ≤ c) (h2 : c ≤ 57) : ∃ m : Nat, IntKind.u64.wrap ((IntKind.u64.wrap (10 * (acc : Int))) + (((c : Int) - 48) % 256)) = m ∧ m < 18446744073709551616 ∧ (acc < 1844674407370955162 → acc * 10 + (c - 48) ≤ 18446744073709551615 → m = acc * 10 + (c - 48)) := by
  rw [IntKind.wrap_u64, IntKind.wrap_u64]
  have e : ((c : Int) - 48) % 256 = ((c - 48 : Nat) : Int) := by omega
  rw [e]
  have e2 : (10 * (acc : Int)) % 18446744073709551616 = ((10 * acc % 18446744073709551616 : Nat) : Int) := by omega
  rw [e2]
  refine ⟨(10 * acc % 18446744073709551616 + (c - 48)) % 18446744073709551616, by omega, Nat.mod_lt _ (by decide), fun h3 h4 => ?_⟩
  rw [Nat.mod_eq_of_lt (show 10 * acc < 18446744073709551616 by omega), Nat.mod_eq_of_lt (by omega)]
  omega
theorem wrap_in (x : Int) : -9223372036854775808 ≤ wrap64 x ∧ wrap64 x ≤ 9223372036854775807 := by unfold wrap64; omega
theorem num_end (s : ByteArray) (b : Bool) (acc : Int) (i f : Nat) (h : s.size ≤ i) : backstayref02_number.l0 (f + 1) s b acc i = some (if b then wrap64 (-(wrap64 acc)) else wrap64 acc, true) := by
  unfold backstayref02_number.l0
  rw [if_neg (by omega)]
  cases b
  · exact if_neg (by decide)
  · exact if_pos rfl
theorem num_end2 (s : ByteArray) (b : Bool) (acc : Int) (i f : Nat) (h : s.size ≤ i) : ∃ v : Int, backstayref02_number.l0 (f + 1) s b acc i = some (v, true) ∧ (-9223372036854775808 ≤ v ∧ v ≤ 9223372036854775807) ∧ v = (if b then wrap64 (-(wrap64 acc)) else wrap64 acc) := by
  have e := num_end s b acc i f h
  cases b
  · exact ⟨wrap64 acc, e, wrap_in acc, rfl⟩
  · exact ⟨wrap64 (-(wrap64 acc)), e, wrap_in (-(wrap64 acc)), rfl⟩
theorem zero_in : (-9223372036854775808 : Int) ≤ 0 ∧ (0 : Int) ≤ 9223372036854775807 := by omega
theorem num_low (s : ByteArray) (b : Bool) (acc : Int) (i f : Nat) (h : i < s.size) (h1 : bt s (i : Int) < 48 ∨ bt s (i : Int) > 57) : backstayref02_number.l0 (f + 1) s b acc i = some (0, false) := by
  unfold backstayref02_number.l0
  rw [if_pos (by omega), if_pos (by omega)]
  by_cases h2 : bt s (i : Int) < 48
  · rw [if_pos h2]
  · rw [if_neg h2, if_pos (by omega)]
theorem num_next (s : ByteArray) (b : Bool) (acc : Int) (i f : Nat) (h : i < s.size) (h1 : ¬ bt s (i : Int) < 48) (h2 : ¬ bt s (i : Int) > 57) : backstayref02_number.l0 (f + 1) s b acc i = backstayref02_number.l0 f s b (IntKind.u64.wrap ((IntKind.u64.wrap (10 * acc)) + (((bt s (i : Int)) - 48) % 256))) (wrap64 ((i : Int) + 1)) := by
  conv => lhs; unfold backstayref02_number.l0
  rw [if_pos (by omega), if_pos (by omega), if_neg h1, if_neg h2]
theorem num_l (M : Nat) (hM : M = 18446744073709551615) (s : ByteArray) (hs : s.size ≤ 19) (b : Bool) : ∀ (n i acc : Nat), i + n = s.size → acc ≤ M → ∀ f, n < f →
    (∃ v : Int, ∃ g : Bool, backstayref02_number.l0 f s b acc i = some (v, g) ∧ (-9223372036854775808 ≤ v ∧ v ≤ 9223372036854775807)) ∧ ∀ u, Lib.parseUintM M acc (s.data.toList.drop i) = .ok u → backstayref02_number.l0 f s b acc i = some (if b then wrap64 (-(wrap64 u)) else wrap64 u, true) := by
  have hlen : s.data.toList.length = s.size := Array.length_toList
  intro n
  induction n with
  | zero =>
    intro i acc hi ha f hf
    obtain ⟨f, rfl⟩ : ∃ g, f = g + 1 := ⟨f - 1, by omega⟩
    obtain ⟨v, e, hv, hve⟩ := num_end2 s b acc i f (by omega)
    refine ⟨⟨v, true, e, hv⟩, fun u hu => ?_⟩
    rw [List.drop_of_length_le (by omega)] at hu
    injection hu with hu
    rw [e, hve, hu]
  | succ n ih =>
    intro i acc hi ha f hf
    obtain ⟨f, rfl⟩ : ∃ g, f = g + 1 := ⟨f - 1, by omega⟩
    have hlt : i < s.data.toList.length := by omega
    have hb := bt_nat s i hlt
    have hd : s.data.toList.drop i = s.data.toList[i] :: s.data.toList.drop (i + 1) := List.drop_eq_getElem_cons hlt
    obtain ⟨c, hc⟩ : ∃ c, s.data.toList[i] = c := ⟨_, rfl⟩
    rw [hc] at hb hd
    by_cases h12 : bt s (i : Int) < 48 ∨ bt s (i : Int) > 57
    · rw [num_low s b acc i f (by omega) h12]
      refine ⟨⟨0, false, rfl, zero_in⟩, fun u hu => ?_⟩
      rw [hd, Lib.parseUintM, if_neg (by rw [hb] at h12; omega)] at hu
      cases hu
    · have h1 : ¬ bt s (i : Int) < 48 := fun h => h12 (.inl h)
      have h2 : ¬ bt s (i : Int) > 57 := fun h => h12 (.inr h)
      rw [num_next s b acc i f (by omega) h1 h2, wrapS i (by omega)]
      rw [hb] at h1 h2 ⊢
      obtain ⟨m, hm, hm2, hm3⟩ := num_step acc c.toNat (by omega) (by omega) (by omega)
      rw [hm]
      obtain ⟨g1, g2⟩ := ih (i + 1) m (by omega) (by omega) f (by omega)
      refine ⟨g1, fun u hu => ?_⟩
      rw [hd, Lib.parseUintM, if_pos (by omega)] at hu
      by_cases h3 : 1844674407370955162 ≤ acc
      · rw [if_pos h3] at hu; cases hu
      · rw [if_neg h3] at hu
        by_cases h4 : M < acc * 10 + (c.toNat - 48)
        · rw [if_pos h4] at hu; cases hu
        · rw [if_neg h4, ← hm3 (by omega) (by omega)] at hu
          exact g2 u hu
end Go.Proofs.YtamagdnlicnefaaGreatDoor
