/- Opcode: the document's side, plain: the operand that a text is. -/
import Derived.Test.YtamagdnlicnefaaGreatDoorKtUf
namespace Go.Proofs.YtamagdnlicnefaaGreatDoor
open Go.RowKit Go.Shelf Go.Proofs.YtamagdnlicnefaaGreatDoorW.PrintWords Go.Proofs.YtamagdnlicnefaaGreatDoorW.PrintLast Go.Proofs.YtamagdnlicnefaaGreatDoorW.PrintMore
open Go.Proofs.YtamagdnlicnefaaGreatDoor.PRef

theorem leO_up {α : Type} {f : Nat → Option α} (hs : ∀ k, LeO (f k) (f (k + 1))) {a b : Nat} (hab : a ≤ b) {r : α} (h : f a = some r) : f b = some r := by
  induction hab with
  | refl => exact h
  | step _ ih => exact hs _ r ih
def I64 (n : Int) : Prop := -9223372036854775808 ≤ n ∧ n ≤ 9223372036854775807
theorem show2_f (n : Int) (h : I64 n) (k : Nat) (hk : 40 ≤ k) : backstayref02_Show.f k 1 n = some ⟨(Lib.itoa n).toArray⟩ := by
  have hd : backstayref02_Digits.f k n = some ⟨(Lib.itoa n).toArray⟩ := leO_up (fun k => backstayref02_Digits.mono _ k) hk (digits_f n h.1 h.2)
  have hc : backstayref02_Check.f 1 n = some 0 := rfl
  have hn : backstayref02_Nil.f 1 n = some false := rfl
  unfold backstayref02_Show.f
  rw [hc, Option.bind_some, if_pos rfl, hn, Option.bind_some, if_neg (by decide), if_pos rfl, hd]
  rfl
theorem read4 (s : ByteArray) (v N : Int) (hN : I64 N) (k : Nat) (hk : 41 ≤ k) : ∃ t M c : Int, backstayref02_Read.j4 k s v false 1 N = some (t, M, c) ∧ (M = N ∨ M = 0) ∧ (s = ⟨(Lib.itoa N).toArray⟩ → M = N) := by
  obtain ⟨k, rfl⟩ : ∃ g, k = g + 1 := ⟨k - 1, by omega⟩
  have e : backstayref02_Read.j4 (k + 1) s v false 1 N = if s.toList = ([] : List UInt8) then (some (0, 0, 21)) else (if s.toList = ([38] : List UInt8) then (some (0, 0, 21)) else ((backstayref02_Show.f k 1 N).bind fun t261 => (if t261.toList = s.toList then (some (1, N, 0)) else (some (0, 0, 21))))) := rfl
  rw [e, show2_f N hN k (by omega), Option.bind_some]
  have hs : s = ⟨(Lib.itoa N).toArray⟩ → s.toList = Lib.itoa N := fun h => by rw [Lib.toList_data, h]
  have hh : ∃ c r, Lib.itoa N = c :: r ∧ c.toNat ≠ 38 := by
    by_cases hn : N < 0
    · exact ⟨45, _, by unfold Lib.itoa; rw [if_pos hn], by decide⟩
    · obtain ⟨u, rfl⟩ : ∃ u : Nat, N = (u : Int) := ⟨N.toNat, by omega⟩
      rw [Lib.itoa_nonneg]
      have key : ∀ u : Nat, ∃ c r, Lib.decDigits u = c :: r ∧ c.toNat ≠ 38 := by
        intro u
        induction u using Nat.strongRecOn with
        | ind u ih =>
          by_cases h : u < 10
          · rw [Lib.decDigits_one h]
            refine ⟨_, _, rfl, ?_⟩
            rw [UInt8.toNat_ofNat']; omega
          · obtain ⟨c, r, h1, h2⟩ := ih (u / 10) (by omega)
            rw [Lib.decDigits, dif_neg h, h1]
            exact ⟨_, _, rfl, h2⟩
      exact key u
  obtain ⟨c, r, h1, h2⟩ := hh
  by_cases q1 : s.toList = ([] : List UInt8)
  · rw [if_pos q1]
    refine ⟨0, 0, 21, rfl, .inr rfl, fun h => ?_⟩
    rw [hs h, h1] at q1; cases q1
  · rw [if_neg q1]
    by_cases q2 : s.toList = ([38] : List UInt8)
    · rw [if_pos q2]
      refine ⟨0, 0, 21, rfl, .inr rfl, fun h => ?_⟩
      rw [hs h, h1] at q2
      injection q2 with q2 _
      exact absurd (by rw [q2]; rfl) h2
    · rw [if_neg q2]
      by_cases q3 : (⟨(Lib.itoa N).toArray⟩ : ByteArray).toList = s.toList
      · rw [if_pos q3]
        exact ⟨1, N, 0, rfl, .inl rfl, fun _ => rfl⟩
      · rw [if_neg q3]
        exact ⟨0, 0, 21, rfl, .inr rfl, fun h => absurd (by rw [h]) q3⟩
theorem read2_f (s : ByteArray) : ∃ t M c : Int, backstayref02_Read.f 62 1 s = some (t, M, c) ∧ I64 M ∧ ∀ m : Int, I64 m → s = ⟨(Lib.itoa m).toArray⟩ → M = m := by
  obtain ⟨v, g, g1, g2, g3⟩ := num2_f s
  have z : I64 0 := zero_in
  have e : backstayref02_Read.f 62 1 s = (backstayref02_number.f 60 s).bind fun bt258 => (if bt258.2 = true then (if (1 : Int) < 4 then (backstayref02_Read.j2 60 1 s bt258.1 bt258.2 (s.toList != ([110, 105, 108] : List UInt8)) 1 0) else (backstayref02_Read.j2 60 1 s bt258.1 bt258.2 false 1 0)) else (backstayref02_Read.j2 60 1 s bt258.1 bt258.2 false 1 0)) := rfl
  have e2 : ∀ x, backstayref02_Read.j2 60 1 s v g x 1 0 = if x = true then backstayref02_Read.j4 58 s v false 1 v else backstayref02_Read.j4 58 s v false 1 0 := fun _ => rfl
  rw [e, g1, Option.bind_some]
  simp only
  have h0 : ∃ t M c : Int, backstayref02_Read.j4 58 s v false 1 0 = some (t, M, c) ∧ I64 M := by
    obtain ⟨t, M, c, h1, h2, _⟩ := read4 s v 0 z 58 (by omega)
    exact ⟨t, M, c, h1, by rcases h2 with rfl | rfl <;> exact z⟩
  cases g
  · rw [if_neg (by decide), e2, if_neg (by decide)]
    obtain ⟨t, M, c, h1, h2⟩ := h0
    exact ⟨t, M, c, h1, h2, fun m hm hs => by have := (g3 m hm.1 hm.2 hs).2; cases this⟩
  · rw [if_pos rfl, if_pos (by decide), e2]
    by_cases hx : (s.toList != ([110, 105, 108] : List UInt8)) = true
    · rw [if_pos hx]
      obtain ⟨t, M, c, h1, h2, h3⟩ := read4 s v v g2 58 (by omega)
      refine ⟨t, M, c, h1, h2.elim (fun e => by rw [e]; exact g2) (fun e => by rw [e]; exact z), fun m hm hs => ?_⟩
      have := (g3 m hm.1 hm.2 hs).1
      rw [h3 (by rw [this]; exact hs), this]
    · rw [if_neg hx]
      obtain ⟨t, M, c, h1, h2⟩ := h0
      refine ⟨t, M, c, h1, h2, fun m hm hs => ?_⟩
      exfalso
      have hb : s.toList = [110, 105, 108] := by simpa using hx
      obtain ⟨x, g4, q1, _, q3⟩ := num2_f s
      rw [Lib.toList_data] at hb
      have hs2 : s = ⟨#[110, 105, 108]⟩ := by
        apply ByteArray.ext
        apply Array.toList_inj.1
        exact hb
      rw [hs2] at g1
      have : backstayref02_number.f 60 (⟨#[110, 105, 108]⟩ : ByteArray) = some (0, false) := by decide +kernel
      rw [this] at g1
      injection g1 with g1
      injection g1 with _ g1
      cases g1
theorem find_i (l : List ByteArray) (s : ByteArray) (hl : l.length ≤ 30) (k lo' hi' : Nat) (_ : k ≤ 10) (hlo : lo k = lo') (hhi : hi k = hi') (hh : hi' < l.length) (hnod : ∀ i j : Fin 30, i.val < l.length → j.val < l.length → l[i.val]? = l[j.val]? → i = j)
    (hat : ∀ m : Fin 30, lo' ≤ m.val → m.val ≤ hi' → l[m.val]? = some ⟨(showK k (m.val : Int)).toArray⟩) : ∃ v, backstayref04_find.f 62 l s = some v ∧ I64 v ∧ RdI k s v := by
  obtain ⟨j, h4, h5⟩ := find_l l s (by omega) l.length 0 (by omega) 62 (by omega)
  refine ⟨j, h4, ?_, fun m hm hs => ?_⟩
  · rcases h5 with ⟨m, rfl, h5⟩ | ⟨rfl, _⟩
    · have := (List.getElem?_eq_some_iff.1 h5).1
      unfold I64
      omega
    · unfold I64; omega
  · have hb := in_bounds hm
    obtain ⟨u, rfl⟩ : ∃ u : Nat, m = (u : Int) := ⟨m.toNat, by omega⟩
    have h6 := hat ⟨u, by omega⟩ (by simp only; omega) (by simp only; omega)
    simp only at h6
    rw [← hs] at h6
    rcases h5 with ⟨m, rfl, h5⟩ | ⟨rfl, h5⟩
    · have hml := (List.getElem?_eq_some_iff.1 h5).1
      have := hnod ⟨m, by omega⟩ ⟨u, by omega⟩ hml (by simp only; omega) (by simp only; rw [h5, h6])
      injection this with this
      rw [this]
    · exact absurd h6 (h5 u (by omega))
theorem letters_at : ∃ l : List ByteArray, backstayref04_letters.f = some l ∧ l.length = 5 ∧ (∀ i j : Fin 30, i.val < 5 → j.val < 5 → l[i.val]? = l[j.val]? → i = j) ∧ (∀ m : Fin 30, 1 ≤ m.val → m.val ≤ 4 → l[m.val]? = some ⟨(showK 2 (m.val : Int)).toArray⟩) ∧ (∀ m : Fin 30, 1 ≤ m.val → m.val ≤ 3 → l[m.val]? = some ⟨(showK 3 (m.val : Int)).toArray⟩) := ⟨_, rfl, rfl, by decide +kernel, by decide +kernel, by decide +kernel⟩
theorem bins_at : ∃ l : List ByteArray, backstayref04_bins.f = some l ∧ l.length = 14 ∧ (∀ i j : Fin 30, i.val < 14 → j.val < 14 → l[i.val]? = l[j.val]? → i = j) ∧ (∀ m : Fin 30, 0 ≤ m.val → m.val ≤ 13 → l[m.val]? = some ⟨(showK 8 (m.val : Int)).toArray⟩) := ⟨_, rfl, rfl, by decide +kernel, by decide +kernel⟩
theorem uns_at : ∃ l : List ByteArray, backstayref04_uns.f = some l ∧ l.length = 9 ∧ (∀ i j : Fin 30, i.val < 9 → j.val < 9 → l[i.val]? = l[j.val]? → i = j) ∧ (∀ m : Fin 30, 0 ≤ m.val → m.val ≤ 8 → l[m.val]? = some ⟨(showK 9 (m.val : Int)).toArray⟩) := ⟨_, rfl, rfl, by decide +kernel, by decide +kernel⟩
theorem number4_f (k : Nat) (hk0 : k ≠ 0) (hk : k ≤ 10) (s : ByteArray) : ∃ v, backstayref04_number.f 63 k s = some v ∧ I64 v ∧ RdI k s v := by
  have ej : ∀ t, backstayref04_number.j0 63 s (k : Int) t = if t = true then ((backstayref04_letters.f).bind fun t262 => ((backstayref04_find.f 62 t262 s).bind fun t265 => (some t265))) else (if (k : Int) = 8 then ((backstayref04_bins.f).bind fun t266 => ((backstayref04_find.f 62 t266 s).bind fun t269 => (some t269))) else (if (k : Int) = 9 then ((backstayref04_uns.f).bind fun t270 => ((backstayref04_find.f 62 t270 s).bind fun t273 => (some t273))) else ((backstayref02_Read.f 62 1 s).bind fun bt274 => (some bt274.2.1)))) := fun _ => rfl
  unfold backstayref04_number.f
  by_cases h2 : k = 2
  · subst h2
    obtain ⟨l, l1, l2, l3, l4, l5⟩ := letters_at
    obtain ⟨v, v1, v2, v3⟩ := find_i l s (by omega) 2 1 4 (by omega) (by decide) (by decide) (by omega) (by rw [l2]; exact l3) l4
    rw [if_pos (by rfl), show ((((2 : Nat) : Int) == 2) = true) from rfl, ej, if_pos rfl, l1, Option.bind_some, v1, Option.bind_some]
    exact ⟨v, rfl, v2, v3⟩
  rw [if_neg (by omega)]
  by_cases h3 : k = 3
  · subst h3
    obtain ⟨l, l1, l2, l3, l4, l5⟩ := letters_at
    obtain ⟨v, v1, v2, v3⟩ := find_i l s (by omega) 3 1 3 (by omega) (by decide) (by decide) (by omega) (by rw [l2]; exact l3) l5
    rw [show ((((3 : Nat) : Int) == 3) = true) from rfl, ej, if_pos rfl, l1, Option.bind_some, v1, Option.bind_some]
    exact ⟨v, rfl, v2, v3⟩
  have e3 : ((k : Int) == 3) = false := by simp; omega
  rw [e3, ej, if_neg (by decide)]
  by_cases h8 : k = 8
  · subst h8
    obtain ⟨l, l1, l2, l3, l4⟩ := bins_at
    obtain ⟨v, v1, v2, v3⟩ := find_i l s (by omega) 8 0 13 (by omega) (by decide) (by decide) (by omega) (by rw [l2]; exact l3) l4
    rw [if_pos (by rfl), l1, Option.bind_some, v1, Option.bind_some]
    exact ⟨v, rfl, v2, v3⟩
  rw [if_neg (by omega)]
  by_cases h9 : k = 9
  · subst h9
    obtain ⟨l, l1, l2, l3, l4⟩ := uns_at
    obtain ⟨v, v1, v2, v3⟩ := find_i l s (by omega) 9 0 8 (by omega) (by decide) (by decide) (by omega) (by rw [l2]; exact l3) l4
    rw [if_pos (by rfl), l1, Option.bind_some, v1, Option.bind_some]
    exact ⟨v, rfl, v2, v3⟩
  rw [if_neg (by omega)]
  obtain ⟨t, M, c, r1, r2, r3⟩ := read2_f s
  rw [r1, Option.bind_some]
  refine ⟨M, rfl, r2, fun m hm hs => ?_⟩
  have hb := in_bounds hm
  have g1 := lo_ge k
  have g2 := hi_le k hk
  have hn : isNamed k = false := by unfold isNamed; simp [h2, h3, h8, h9]
  have e : showK k m = Lib.itoa m := by unfold showK; rw [if_neg (by rw [hn]; decide)]
  rw [e] at hs
  exact r3 m ⟨by omega, by omega⟩ hs
end Go.Proofs.YtamagdnlicnefaaGreatDoor
