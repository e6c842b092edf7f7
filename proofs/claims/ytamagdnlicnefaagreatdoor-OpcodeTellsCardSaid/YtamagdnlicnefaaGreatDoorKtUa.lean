/- Opcode: the document's side, plain: kinds, checks, effects, names. -/
import Derived.Test.YtamagdnlicnefaaGreatDoorKtPRefb
import Derived.Test.YtamagdnlicnefaaGreatDoorKtT1
namespace Go.Proofs.YtamagdnlicnefaaGreatDoor
open Go.RowKit Go.Shelf Go.Proofs.YtamagdnlicnefaaGreatDoorW.PrintWords Go.Proofs.YtamagdnlicnefaaGreatDoorW.PrintLast Go.Proofs.YtamagdnlicnefaaGreatDoorW.PrintMore
open Go.Proofs.YtamagdnlicnefaaGreatDoor.PRef

theorem kinds_f (op : Int) : backstayref04_Kinds.f 20 op = some ((ka op : Int), (kb op : Int)) := by
  by_cases h : 0 ≤ op ∧ op < 30
  · obtain ⟨n, rfl⟩ := Int.eq_ofNat_of_zero_le h.1
    have : ∀ k : Fin 30, backstayref04_Kinds.f 20 (k.val : Int) = some ((ka (k.val : Int) : Int), (kb (k.val : Int) : Int)) := by decide +kernel
    exact this ⟨n, by omega⟩
  · have ha : ka op = 0 := if_neg h
    have hb : kb op = 0 := if_neg h
    rw [ha, hb]
    have e : ∀ i : Int, 0 ≤ i → i < 30 → ¬ op = i := fun i h0 h1 e => h ⟨by omega, by omega⟩
    have e2 : ∀ i : Int, 0 ≤ i → i < 30 → (op == i) = false := fun i h0 h1 => beq_eq_false_iff_ne.2 (e i h0 h1)
    simp [backstayref04_Kinds.f, backstayref04_Kinds.j0, backstayref04_Kinds.j1, backstayref04_Kinds.j2, backstayref04_Kinds.j3, e]
theorem in_f (k : Nat) (n : Int) (hk : k ≤ 10) (h0 : -9223372036854775808 ≤ n) (h1 : n ≤ 9223372036854775807) : backstayref04_in.f k n = some (inB k n) := by
  have hm : ∀ k : Fin 11, k.val ≠ 1 → backstayref04_least.f k.val = some (lo k.val) ∧ backstayref04_most.f k.val = some (hi k.val) := by decide +kernel
  unfold backstayref04_in.f
  by_cases h : k = 1
  · subst h
    rw [if_pos (by rfl)]
    have : inB 1 n = true := by
      unfold inB
      rw [Bool.and_eq_true, decide_eq_true_eq, decide_eq_true_eq]
      exact ⟨h0, h1⟩
    rw [this]
  · rw [if_neg (by omega)]
    obtain ⟨e1, e2⟩ := hm ⟨k, by omega⟩ h
    simp only at e1 e2
    rw [e1, Option.bind_some]
    by_cases h2 : lo k ≤ n
    · rw [if_pos h2, e2, Option.bind_some]
      unfold inB
      rw [decide_eq_true h2, Bool.true_and]
    · rw [if_neg h2]
      unfold inB
      rw [decide_eq_false h2, Bool.false_and]
theorem check_f (op a b : Int) (h0 : -9223372036854775808 ≤ a) (h1 : a ≤ 9223372036854775807) (h2 : -9223372036854775808 ≤ b) (h3 : b ≤ 9223372036854775807) : backstayref04_Check.f 20 op a b = some (codeE (okB op a b)) := by
  unfold backstayref04_Check.f
  rw [kinds_f, Option.bind_some]
  simp only
  rw [in_f _ _ (ka_le op) h0 h1, Option.bind_some, in_f _ _ (kb_le op) h2 h3, Option.bind_some]
  by_cases h : op < 0
  · rw [if_pos h]
    have : okB op a b = false := by unfold okB knownB; rw [decide_eq_false (by omega : ¬ 0 ≤ op)]; rfl
    rw [this]; rfl
  · rw [if_neg h]
    by_cases h5 : op ≥ 30
    · rw [if_pos h5]
      have : okB op a b = false := by unfold okB knownB; rw [decide_eq_false (by omega : ¬ op < 30), Bool.and_false]; rfl
      rw [this]; rfl
    · rw [if_neg h5]
      have : okB op a b = (inB (ka op) a && inB (kb op) b) := by unfold okB knownB; rw [decide_eq_true (by omega : 0 ≤ op), decide_eq_true (by omega : op < 30)]; rfl
      rw [this]
      cases inB (ka op) a <;> cases inB (kb op) b <;> rfl
theorem thirty {k : Nat} (hk : k < 30) : k = 0 ∨ k = 1 ∨ k = 2 ∨ k = 3 ∨ k = 4 ∨ k = 5 ∨ k = 6 ∨ k = 7 ∨ k = 8 ∨ k = 9 ∨ k = 10 ∨ k = 11 ∨ k = 12 ∨ k = 13 ∨ k = 14 ∨ k = 15 ∨ k = 16 ∨ k = 17 ∨ k = 18 ∨ k = 19 ∨ k = 20 ∨ k = 21 ∨ k = 22 ∨ k = 23 ∨ k = 24 ∨ k = 25 ∨ k = 26 ∨ k = 27 ∨ k = 28 ∨ k = 29 := by omega
theorem effect_f (op a b : Int) (h0 : -9223372036854775808 ≤ a) (h1 : a ≤ 9223372036854775807) (h2 : -9223372036854775808 ≤ b) (h3 : b ≤ 9223372036854775807) : backstayref04_Effect.f 20 op a b = some (effT true op a b, effT false op a b, fixB op a b) := by
  have hc := check_f op a b h0 h1 h2 h3
  unfold backstayref04_Effect.f
  rw [hc, Option.bind_some]
  cases hok : okB op a b
  · have hf : fixB op a b = false := by unfold fixB; rw [hok]; rfl
    have he : ∀ x, effT x op a b = [] := fun x => by unfold effT; rw [if_neg (by rw [hf]; decide)]
    rw [he, he, hf]
    rfl
  · have g := ok_op hok
    obtain ⟨k, rfl⟩ := Int.eq_ofNat_of_zero_le g.1
    have hf : fixB (k : Int) a b = !looseB k := by unfold fixB; rw [hok]; rfl
    have he : ∀ x, effT x (k : Int) a b = if (!looseB k) = true then effL (halfL x k) (lastI k a b) else [] := fun x => by unfold effT; rw [hf]; rfl
    rw [he, he, hf]
    clear hc hf he h0 h1 h2 h3
    have hk : k < 30 := by omega
    clear g hok
    rcases thirty hk with rfl | rfl | rfl | rfl | rfl | rfl | rfl | rfl | rfl | rfl | rfl | rfl | rfl | rfl | rfl | rfl | rfl | rfl | rfl | rfl | rfl | rfl | rfl | rfl | rfl | rfl | rfl | rfl | rfl | rfl
    all_goals rfl
theorem goes_f (op a b : Int) (h0 : -9223372036854775808 ≤ a) (h1 : a ≤ 9223372036854775807) (h2 : -9223372036854775808 ≤ b) (h3 : b ≤ 9223372036854775807) : backstayref04_Goes.f 20 op a b = some (goesV op a b, goesB op a b) := by
  have hc := check_f op a b h0 h1 h2 h3
  unfold backstayref04_Goes.f
  rw [hc, Option.bind_some]
  cases hok : okB op a b
  · have hf : goesB op a b = false := by unfold goesB; rw [hok, Bool.and_false]
    have hv : goesV op a b = 0 := by unfold goesV; rw [hf]; rfl
    rw [hf, hv]
    rfl
  · have g := ok_op hok
    obtain ⟨k, rfl⟩ := Int.eq_ofNat_of_zero_le g.1
    have hf : goesB (k : Int) a b = decide (ka k = 10) := by unfold goesB; rw [hok, Bool.and_true]
    have hv : goesV (k : Int) a b = if decide (ka k = 10) = true then a else 0 := by unfold goesV; rw [hf]
    rw [hf, hv]
    clear hc hf hv h0 h1 h2 h3
    have hk : k < 30 := by omega
    clear g hok
    rcases thirty hk with rfl | rfl | rfl | rfl | rfl | rfl | rfl | rfl | rfl | rfl | rfl | rfl | rfl | rfl | rfl | rfl | rfl | rfl | rfl | rfl | rfl | rfl | rfl | rfl | rfl | rfl | rfl | rfl | rfl | rfl
    all_goals rfl
theorem ends_f (op a b : Int) (h0 : -9223372036854775808 ≤ a) (h1 : a ≤ 9223372036854775807) (h2 : -9223372036854775808 ≤ b) (h3 : b ≤ 9223372036854775807) : backstayref04_Ends.f 20 op a b = some (endsB op a b) := by
  have hc := check_f op a b h0 h1 h2 h3
  unfold backstayref04_Ends.f
  rw [hc, Option.bind_some]
  cases hok : okB op a b
  · have hf : endsB op a b = false := by unfold endsB; rw [hok, Bool.and_false]
    rw [hf]
    rfl
  · have g := ok_op hok
    obtain ⟨k, rfl⟩ := Int.eq_ofNat_of_zero_le g.1
    have hf : endsB (k : Int) a b = endOp k := by unfold endsB; rw [hok, Bool.and_true]
    rw [hf]
    clear hc hf h0 h1 h2 h3
    have hk : k < 30 := by omega
    clear g hok
    rcases thirty hk with rfl | rfl | rfl | rfl | rfl | rfl | rfl | rfl | rfl | rfl | rfl | rfl | rfl | rfl | rfl | rfl | rfl | rfl | rfl | rfl | rfl | rfl | rfl | rfl | rfl | rfl | rfl | rfl | rfl | rfl
    all_goals rfl
theorem name_f (op : Int) : backstayref04_Name.f op = some ⟨(nameL op).toArray⟩ := by
  by_cases h : 0 ≤ op ∧ op < 30
  · obtain ⟨n, rfl⟩ := Int.eq_ofNat_of_zero_le h.1
    have : ∀ k : Fin 30, backstayref04_Name.f (k.val : Int) = some ⟨(nameL (k.val : Int)).toArray⟩ := by decide +kernel
    exact this ⟨n, by omega⟩
  · have hn : nameL op = [] := if_neg h
    rw [hn]
    unfold backstayref04_Name.f
    by_cases h1 : op < 0
    · rw [if_pos h1]
    · rw [if_neg h1, if_pos (by omega)]
theorem str_eq (x y : ByteArray) : x.toList = y.toList ↔ x = y := by
  rw [← same_str2, beq_iff_eq]
theorem find_l (l : List ByteArray) (s : ByteArray) (hl : l.length ≤ 100) : ∀ (n i : Nat), i + n = l.length → ∀ f, n < f → ∃ j : Int, backstayref04_find.l0 f l s i = some j ∧ ((∃ m : Nat, j = m ∧ l[m]? = some s) ∨ (j = -1 ∧ ∀ m, i ≤ m → l[m]? ≠ some s)) := by
  intro n
  induction n with
  | zero =>
    intro i hi f hf
    obtain ⟨f, rfl⟩ : ∃ g, f = g + 1 := ⟨f - 1, by omega⟩
    unfold backstayref04_find.l0
    rw [if_neg (by omega)]
    refine ⟨-1, rfl, .inr ⟨rfl, fun m hm h => ?_⟩⟩
    have := (List.getElem?_eq_some_iff.1 h).1
    omega
  | succ n ih =>
    intro i hi f hf
    obtain ⟨f, rfl⟩ : ∃ g, f = g + 1 := ⟨f - 1, by omega⟩
    unfold backstayref04_find.l0
    rw [if_pos (by omega), if_pos (by omega)]
    have hr : l[i]? = some (rdOf ByteArray.empty l (i : Int)) := by
      unfold rdOf
      rw [Int.toNat_natCast]
      simp [List.getD, show i < l.length by omega]
    by_cases h : (rdOf ByteArray.empty l (i : Int)).toList = s.toList
    · rw [if_pos h]
      refine ⟨_, rfl, .inl ⟨i, rfl, ?_⟩⟩
      rw [hr, (str_eq _ _).1 h]
    · rw [if_neg h]
      have hw : wrap64 ((i : Int) + 1) = ((i + 1 : Nat) : Int) := by unfold wrap64; omega
      rw [hw]
      obtain ⟨j, h1, h2⟩ := ih (i + 1) (by omega) f (by omega)
      refine ⟨j, h1, ?_⟩
      rcases h2 with h2 | ⟨h2, h3⟩
      · exact .inl h2
      · refine .inr ⟨h2, fun m hm e => ?_⟩
        rcases Nat.lt_or_ge i m with hlt | hge
        · exact h3 m hlt e
        · obtain rfl : m = i := by omega
          rw [hr] at e
          injection e with e
          exact h ((str_eq _ _).2 e)
theorem names_at : ∃ l : List ByteArray, backstayref04_names.f = some l ∧ l.length = 30 ∧ ∀ k : Fin 30, l[k.val]? = some ⟨((rowOf k.val).1).toArray⟩ := ⟨_, rfl, rfl, by decide +kernel⟩
theorem of_f (s : ByteArray) : ∃ r c : Int, backstayref04_Of.f 40 s = some (r, c) ∧ OfIs s r c := by
  obtain ⟨l, h1, h2, h3⟩ := names_at
  unfold backstayref04_Of.f backstayref04_find.f
  rw [h1, Option.bind_some]
  obtain ⟨j, h4, h5⟩ := find_l l s (by omega) 30 0 (by omega) 40 (by omega)
  rw [show ((0 : Nat) : Int) = 0 from rfl] at h4
  rw [h4, Option.bind_some]
  rcases h5 with ⟨m, rfl, h5⟩ | ⟨rfl, h5⟩
  · rw [if_neg (by omega)]
    have hm : m < 30 := by rw [← h2]; exact (List.getElem?_eq_some_iff.1 h5).1
    refine ⟨_, _, rfl, .inl ⟨m, hm, rfl, rfl, ?_⟩⟩
    have := h3 ⟨m, hm⟩
    simp only at this
    rw [this] at h5
    injection h5 with h5
    exact h5.symm
  · rw [if_pos (by decide)]
    refine ⟨_, _, rfl, .inr ⟨rfl, rfl, fun k hk e => h5 k (by omega) ?_⟩⟩
    rw [e]
    exact h3 ⟨k, hk⟩
theorem of_uniq {s : ByteArray} {r c r' c' : Int} (h : OfIs s r c) (h' : OfIs s r' c') : r = r' ∧ c = c' := by
  rcases h with ⟨k, hk, rfl, rfl, e⟩ | ⟨rfl, rfl, e⟩ <;> rcases h' with ⟨k', hk', rfl, rfl, e'⟩ | ⟨rfl, rfl, e'⟩
  · have := name_same ⟨k, hk⟩ ⟨k', hk'⟩ (by
      simp only
      rw [e] at e'
      injection e' with e'
      simpa using e')
    injection this with this
    exact ⟨by rw [this], rfl⟩
  · exact absurd e (e' k hk)
  · exact absurd e' (e k' hk')
  · exact ⟨rfl, rfl⟩
end Go.Proofs.YtamagdnlicnefaaGreatDoor
