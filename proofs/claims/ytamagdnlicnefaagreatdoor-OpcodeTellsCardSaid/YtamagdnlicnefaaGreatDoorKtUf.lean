/- Opcode: the document's side, plain: numbers read. -/
import Derived.Test.YtamagdnlicnefaaGreatDoorKtUe
namespace Go.Proofs.YtamagdnlicnefaaGreatDoor
open Go.RowKit Go.Shelf Go.Proofs.YtamagdnlicnefaaGreatDoorW.PrintWords Go.Proofs.YtamagdnlicnefaaGreatDoorW.PrintLast Go.Proofs.YtamagdnlicnefaaGreatDoorW.PrintMore
open Go.Proofs.YtamagdnlicnefaaGreatDoor.PRef

theorem dec_len : ∀ (k u : Nat), u < 10 ^ k → 1 ≤ k → (Lib.decDigits u).length ≤ k := by
  intro k
  induction k with
  | zero => intro u _ h; omega
  | succ k ih =>
    intro u hu _
    by_cases h : u < 10
    · rw [Lib.decDigits_one h]
      simp
    · rw [Lib.decDigits, dif_neg h, List.length_append, List.length_singleton]
      have h1 : 1 ≤ k := by
        rcases Nat.eq_zero_or_pos k with rfl | h1
        · simp at hu; omega
        · exact h1
      have := ih (u / 10) (by rw [Nat.pow_succ] at hu; omega) h1
      omega
theorem size_of_data {s : ByteArray} {l : List UInt8} (h : s.data.toList = l) : s.size = l.length := by
  rw [← h]; exact Array.length_toList.symm
theorem sgn_wrap (u : Nat) (b : Bool) (hu : u ≤ 9223372036854775808) (hb : b = false → u ≤ 9223372036854775807) : (if b then wrap64 (-(wrap64 (u : Int))) else wrap64 (u : Int)) = if b then -(u : Int) else u := by
  cases b
  · have := hb rfl
    rw [if_neg (by decide), if_neg (by decide)]
    unfold wrap64; omega
  · rw [if_pos rfl, if_pos rfl]
    unfold wrap64; omega
theorem num_j1 (x0 : ByteArray) (b : Bool) (k : Nat) (hk : 25 ≤ k) : ∃ v : Int, ∃ g : Bool, backstayref02_number.j1 k x0 b = some (v, g) ∧ (-9223372036854775808 ≤ v ∧ v ≤ 9223372036854775807) ∧ ∀ u : Nat, u ≤ 9223372036854775808 → (b = false → u ≤ 9223372036854775807) → x0.data.toList = Lib.decDigits u → v = (if b then -(u : Int) else u) ∧ g = true := by
  obtain ⟨k, rfl⟩ : ∃ g, k = g + 2 := ⟨k - 2, by omega⟩
  have hz : ∀ u : Nat, u ≤ 9223372036854775808 → x0.data.toList = Lib.decDigits u → 1 ≤ x0.size ∧ x0.size ≤ 19 := fun u hu h => by
    have h1 := size_of_data h
    have h2 := dec_len 19 u (by have e : (10 : Nat) ^ 19 = 10000000000000000000 := by decide
                                omega) (by omega)
    have h3 : 1 ≤ (Lib.decDigits u).length := by
      rcases Nat.eq_zero_or_pos (Lib.decDigits u).length with h4 | h4
      · exact absurd (List.length_eq_zero_iff.1 h4) (decDigits_ne u)
      · exact h4
    omega
  have ej1 : backstayref02_number.j1 (k + 2) x0 b = if (x0.size : Int) < 1 then backstayref02_number.j2 (k + 1) x0 b true else backstayref02_number.j2 (k + 1) x0 b (decide ((x0.size : Int) > 19)) := rfl
  have ej2 : ∀ t, backstayref02_number.j2 (k + 1) x0 b t = if t = true then some (0, false) else backstayref02_number.l0 k x0 b 0 0 := fun _ => rfl
  rw [ej1]
  by_cases h1 : (x0.size : Int) < 1
  · rw [if_pos h1, ej2, if_pos rfl]
    exact ⟨0, false, rfl, zero_in, fun u hu _ h => by have := hz u hu h; omega⟩
  · rw [if_neg h1, ej2]
    by_cases h2 : (x0.size : Int) > 19
    · rw [decide_eq_true h2, if_pos rfl]
      exact ⟨0, false, rfl, zero_in, fun u hu _ h => by have := hz u hu h; omega⟩
    · rw [decide_eq_false h2, if_neg (by decide)]
      obtain ⟨⟨v, g, g1, g2⟩, g3⟩ := num_l 18446744073709551615 rfl x0 (by omega) b x0.size 0 0 (by omega) (by omega) k (by omega)
      refine ⟨v, g, g1, g2, fun u hu hb h => ?_⟩
      have g4 := g3 u (by rw [List.drop_zero, h]; exact parseUintM_dec _ (by decide) u (by omega))
      have g5 : some (v, g) = some (_, true) := g1.symm.trans g4
      injection g5 with g5
      injection g5 with g5 g6
      rw [sgn_wrap u b hu hb] at g5
      exact ⟨g5, g6⟩
theorem num2_f (s : ByteArray) : ∃ v : Int, ∃ g : Bool, backstayref02_number.f 60 s = some (v, g) ∧ (-9223372036854775808 ≤ v ∧ v ≤ 9223372036854775807) ∧ ∀ m : Int, -9223372036854775808 ≤ m → m ≤ 9223372036854775807 → s = ⟨(Lib.itoa m).toArray⟩ → v = m ∧ g = true := by
  have hd : ∀ m : Int, s = ⟨(Lib.itoa m).toArray⟩ → s.data.toList = Lib.itoa m := fun m h => by rw [h]
  have hne : ∀ m : Int, s = ⟨(Lib.itoa m).toArray⟩ → 0 < s.size := fun m h => by
    have h1 := size_of_data (hd m h)
    unfold Lib.itoa at h1
    split at h1
    · rw [List.length_cons] at h1; omega
    · rcases Nat.eq_zero_or_pos (Lib.decDigits m.toNat).length with h4 | h4
      · exact absurd (List.length_eq_zero_iff.1 h4) (decDigits_ne _)
      · omega
  have ej0 : ∀ t, backstayref02_number.j0 60 s t = if t = true then (if 1 ≤ (s.size : Int) then backstayref02_number.j1 59 (s.extract 1 s.size) t else none) else backstayref02_number.j1 59 s t := fun _ => rfl
  unfold backstayref02_number.f
  by_cases h0 : (s.size : Int) > 0
  · rw [if_pos h0, if_pos (by omega), ej0]
    have hlt : 0 < s.data.toList.length := by rw [Array.length_toList]; show 0 < s.size; omega
    have hb := bt_nat s 0 hlt
    rw [show ((0 : Nat) : Int) = 0 from rfl] at hb
    obtain ⟨c, r, hcr⟩ : ∃ c r, s.data.toList = c :: r := by
      cases h : s.data.toList with
      | nil => rw [h] at hlt; exact absurd hlt (Nat.lt_irrefl 0)
      | cons c r => exact ⟨c, r, rfl⟩
    have hbc : bt s 0 = (c.toNat : Int) := by rw [hb]; simp [hcr]
    by_cases h45 : c = 45
    · have hq : (bt s 0 == 45) = true := by rw [hbc, h45]; rfl
      rw [hq, if_pos rfl, if_pos (by omega)]
      obtain ⟨v, g, g1, g2, g3⟩ := num_j1 (s.extract 1 s.size) true 59 (by omega)
      refine ⟨v, g, g1, g2, fun m hm0 hm1 hs => ?_⟩
      have h1 := hd m hs
      rw [hcr, h45] at h1
      by_cases hm : m < 0
      · obtain ⟨u, rfl⟩ : ∃ u : Nat, m = -(u : Int) := ⟨m.natAbs, by omega⟩
        rw [Lib.itoa_neg u (by omega)] at h1
        injection h1 with _ h1
        have h2 : (s.extract 1 s.size).data.toList = Lib.decDigits u := by
          rw [cut_data, hcr, ← h1, List.drop_succ_cons, List.drop_zero, List.take_of_length_le]
          have := size_of_data hcr
          rw [List.length_cons] at this
          omega
        exact g3 u (by omega) (fun h => by cases h) h2
      · obtain ⟨u, rfl⟩ : ∃ u : Nat, m = (u : Int) := ⟨m.toNat, by omega⟩
        rw [Lib.itoa_nonneg] at h1
        obtain ⟨c', r', e1, e2, e3⟩ := decDigits_led u
        rw [e1] at h1
        injection h1 with h1 _
        rw [← h1] at e3
        exact absurd rfl e3
    · have hq : (bt s 0 == 45) = false := by
        rw [hbc, beq_eq_false_iff_ne]
        intro e
        apply h45
        apply UInt8.toNat_inj.1
        show _ = 45
        omega
      rw [hq, if_neg (by decide)]
      obtain ⟨v, g, g1, g2, g3⟩ := num_j1 s false 59 (by omega)
      refine ⟨v, g, g1, g2, fun m hm0 hm1 hs => ?_⟩
      have h1 := hd m hs
      by_cases hm : m < 0
      · obtain ⟨u, rfl⟩ : ∃ u : Nat, m = -(u : Int) := ⟨m.natAbs, by omega⟩
        rw [Lib.itoa_neg u (by omega), hcr] at h1
        injection h1 with h1 _
        exact absurd h1 h45
      · obtain ⟨u, rfl⟩ : ∃ u : Nat, m = (u : Int) := ⟨m.toNat, by omega⟩
        rw [Lib.itoa_nonneg] at h1
        exact g3 u (by omega) (fun _ => by omega) h1
  · rw [if_neg h0, ej0, if_neg (by decide)]
    obtain ⟨v, g, g1, g2, _⟩ := num_j1 s false 59 (by omega)
    exact ⟨v, g, g1, g2, fun m _ _ hs => by have := hne m hs; omega⟩
end Go.Proofs.YtamagdnlicnefaaGreatDoor
