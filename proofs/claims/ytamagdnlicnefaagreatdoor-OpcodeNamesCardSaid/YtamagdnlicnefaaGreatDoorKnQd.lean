/- Opcode: what bytes, and texts, tell (no program). -/
import Derived.Test.YtamagdnlicnefaaGreatDoorKnQc
namespace Go.Proofs.YtamagdnlicnefaaGreatDoor
open Go.RowKit Go.Shelf

theorem in_bounds {k : Nat} {n : Int} (h : inB k n = true) : lo k ≤ n ∧ n ≤ hi k := by
  unfold inB at h
  simpa only [Bool.and_eq_true, decide_eq_true_eq] using h
theorem ok_op {op a b : Int} (h : okB op a b = true) : 0 ≤ op ∧ op < 30 ∧ inB (ka op) a = true ∧ inB (kb op) b = true := by
  unfold okB knownB at h
  simp only [Bool.and_eq_true, decide_eq_true_eq] at h
  exact ⟨h.1.1, h.1.2, h.2.1, h.2.2⟩
theorem in_zero {n : Int} (h : inB 0 n = true) : n = 0 := by
  have h1 := in_bounds h
  have : lo 0 = 0 := by decide
  have : hi 0 = 0 := by decide
  omega
theorem vals_same {op a b a' b' : Int} (h : okB op a b = true) (h' : okB op a' b' = true) (hv : ∀ x ∈ opsL (ka op) (kb op), valAt a b x.2 = valAt a' b' x.2) : a = a' ∧ b = b' := by
  have h1 := ok_op h
  have h2 := ok_op h'
  constructor
  · by_cases hk : ka op = 0
    · rw [hk] at h1 h2
      rw [in_zero h1.2.2.1, in_zero h2.2.2.1]
    · exact hv (ka op, 1) (by simp [opsL, hk])
  · by_cases hk : kb op = 0
    · rw [hk] at h1 h2
      rw [in_zero h1.2.2.2, in_zero h2.2.2.2]
    · exact hv (kb op, 2) (by simp [opsL, hk])
theorem vals_in {op a b : Int} (h : okB op a b = true) (x : Nat × Nat) (hx : x ∈ opsL (ka op) (kb op)) : x.1 ≤ 10 ∧ inB x.1 (valAt a b x.2) = true := by
  have h1 := ok_op h
  rcases opsL_mem hx with ⟨rfl, _⟩ | ⟨rfl, _⟩
  · exact ⟨ka_le _, h1.2.2.1⟩
  · exact ⟨kb_le _, h1.2.2.2⟩
theorem split32 {u v r s : List UInt8} (hu : ∀ c ∈ u, c ≠ 32) (hv : ∀ c ∈ v, c ≠ 32) (hr : r = [] ∨ ∃ t, r = 32 :: t) (hs : s = [] ∨ ∃ t, s = 32 :: t) (h : u ++ r = v ++ s) : u = v ∧ r = s := by
  have key : ∀ (u r : List UInt8), (∀ c ∈ u, c ≠ 32) → (r = [] ∨ ∃ t, r = 32 :: t) → (u ++ r).takeWhile (fun c => c != 32) = u := by
    intro u r hu hr
    rw [List.takeWhile_append_of_pos (fun c hc => by simpa using hu c hc)]
    rcases hr with rfl | ⟨t, rfl⟩ <;> simp
  have e := congrArg (List.takeWhile (fun c => c != 32)) h
  rw [key u r hu hr, key v s hv hs] at e
  subst e
  exact ⟨rfl, List.append_cancel_left h⟩
def dv (l : List UInt8) : Nat := l.foldl (fun x c => 10 * x + (c.toNat - 48)) 0
theorem dv_dec : ∀ u : Nat, dv (Lib.decDigits u) = u ∧ ∀ c ∈ Lib.decDigits u, 48 ≤ c.toNat := by
  intro u
  induction u using Nat.strongRecOn with
  | ind u ih =>
    have hd : ∀ d : Nat, d < 10 → (UInt8.ofNat (48 + d)).toNat = 48 + d := fun d h => by rw [UInt8.toNat_ofNat']; omega
    rw [Lib.decDigits]
    split
    · rename_i h
      refine ⟨?_, fun c hc => ?_⟩
      · show 10 * 0 + ((UInt8.ofNat (48 + u)).toNat - 48) = u
        rw [hd u h]; omega
      · rw [List.mem_singleton.1 hc, hd u h]; omega
    · rename_i h
      obtain ⟨h1, h2⟩ := ih (u / 10) (by omega)
      refine ⟨?_, fun c hc => ?_⟩
      · unfold dv at h1 ⊢
        rw [List.foldl_append, h1]
        show 10 * (u / 10) + ((UInt8.ofNat (48 + u % 10)).toNat - 48) = u
        rw [hd _ (by omega)]; omega
      · rcases List.mem_append.1 hc with hc | hc
        · exact h2 c hc
        · rw [List.mem_singleton.1 hc, hd _ (by omega)]; omega
theorem itoa_in (n : Int) : ∀ c ∈ Lib.itoa n, c ≠ 32 := by
  intro c hc e
  subst e
  unfold Lib.itoa at hc
  split at hc
  · rcases List.mem_cons.1 hc with h | h
    · exact absurd h (by decide)
    · exact absurd ((dv_dec _).2 _ h) (by decide)
  · exact absurd ((dv_dec _).2 _ hc) (by decide)
theorem itoa_same {n m : Int} (h : Lib.itoa n = Lib.itoa m) : n = m := by
  have no : ∀ (l : List UInt8) (u : Nat), 45 :: l ≠ Lib.decDigits u := fun l u e => by
    have := (dv_dec u).2 45 (by rw [← e]; exact List.mem_cons_self ..)
    exact absurd this (by decide)
  unfold Lib.itoa at h
  split at h <;> split at h
  · have e := congrArg dv (List.cons.inj h).2
    rw [(dv_dec _).1, (dv_dec _).1] at e
    omega
  · exact absurd h (no _ _)
  · exact absurd h.symm (no _ _)
  · have e := congrArg dv h
    rw [(dv_dec _).1, (dv_dec _).1] at e
    omega
theorem bin_in : ∀ i : Fin 14, (binL i.val).all (fun c => c != 32) = true := by decide +kernel
theorem un_in : ∀ i : Fin 9, (unL i.val).all (fun c => c != 32) = true := by decide +kernel
theorem bin_same : ∀ i j : Fin 14, binL i.val = binL j.val → i = j := by decide +kernel
theorem un_same : ∀ i j : Fin 9, unL i.val = unL j.val → i = j := by decide +kernel
theorem named_cases {k : Nat} (hk : isNamed k = true) : k = 2 ∨ k = 3 ∨ k = 8 ∨ k = 9 := by
  unfold isNamed at hk
  simp only [Bool.or_eq_true, beq_iff_eq] at hk
  omega
theorem showK_in {k : Nat} {n : Int} (h : inB k n = true) : ∀ c ∈ showK k n, c ≠ 32 := by
  intro c hc
  have h1 := in_bounds h
  unfold showK at hc
  split at hc
  · rename_i hk
    rcases named_cases hk with rfl | rfl | rfl | rfl
    · revert hc
      simp only [show (2 : Nat) ≠ 8 from by decide, show (2 : Nat) ≠ 9 from by decide, if_false]
      unfold letterL
      split <;> (try split) <;> (try split) <;> simp <;> rintro rfl <;> decide
    · revert hc
      simp only [show (3 : Nat) ≠ 8 from by decide, show (3 : Nat) ≠ 9 from by decide, if_false]
      unfold letterL
      split <;> (try split) <;> (try split) <;> simp <;> rintro rfl <;> decide
    · obtain ⟨m, rfl⟩ := Int.eq_ofNat_of_zero_le (show 0 ≤ n from h1.1)
      have : (m : Int) ≤ 13 := h1.2
      have := List.all_eq_true.1 (bin_in ⟨m, by omega⟩) c hc
      simpa using this
    · obtain ⟨m, rfl⟩ := Int.eq_ofNat_of_zero_le (show 0 ≤ n from h1.1)
      have : (m : Int) ≤ 8 := h1.2
      have := List.all_eq_true.1 (un_in ⟨m, by omega⟩) c hc
      simpa using this
  · exact itoa_in n c hc
theorem letter_same {n m : Int} (h1 : 1 ≤ n ∧ n ≤ 4) (h2 : 1 ≤ m ∧ m ≤ 4) (e : letterL n = letterL m) : n = m := by
  have h : (n = 1 ∨ n = 2 ∨ n = 3 ∨ n = 4) ∧ (m = 1 ∨ m = 2 ∨ m = 3 ∨ m = 4) := by omega
  obtain ⟨h3, h4⟩ := h
  rcases h3 with rfl | rfl | rfl | rfl <;> rcases h4 with rfl | rfl | rfl | rfl <;> first | rfl | exact absurd e (by decide)
theorem showK_same {k : Nat} {n m : Int} (h : inB k n = true) (h' : inB k m = true) (e : showK k n = showK k m) : n = m := by
  have h1 := in_bounds h
  have h2 := in_bounds h'
  unfold showK at e
  by_cases hk : isNamed k = true
  · rw [if_pos hk, if_pos hk] at e
    rcases named_cases hk with rfl | rfl | rfl | rfl
    · exact letter_same h1 h2 e
    · exact letter_same ⟨h1.1, Int.le_trans h1.2 (by decide)⟩ ⟨h2.1, Int.le_trans h2.2 (by decide)⟩ e
    · obtain ⟨x, rfl⟩ := Int.eq_ofNat_of_zero_le (show 0 ≤ n from h1.1)
      obtain ⟨y, rfl⟩ := Int.eq_ofNat_of_zero_le (show 0 ≤ m from h2.1)
      have hx : (x : Int) ≤ 13 := h1.2
      have hy : (y : Int) ≤ 13 := h2.2
      have := bin_same ⟨x, by omega⟩ ⟨y, by omega⟩ e
      injection this with this
      rw [this]
    · obtain ⟨x, rfl⟩ := Int.eq_ofNat_of_zero_le (show 0 ≤ n from h1.1)
      obtain ⟨y, rfl⟩ := Int.eq_ofNat_of_zero_le (show 0 ≤ m from h2.1)
      have hx : (x : Int) ≤ 8 := h1.2
      have hy : (y : Int) ≤ 8 := h2.2
      have := un_same ⟨x, by omega⟩ ⟨y, by omega⟩ e
      injection this with this
      rw [this]
  · rw [if_neg hk, if_neg hk] at e
    exact itoa_same e
theorem flatS_led (a b : Int) (L : List (Nat × Nat)) : flatS a b L = [] ∨ ∃ t, flatS a b L = 32 :: t := by
  cases L with
  | nil => exact .inl rfl
  | cons x L => exact .inr ⟨_, rfl⟩
theorem flatS_cut (a b a' b' : Int) : ∀ (L : List (Nat × Nat)), (∀ x ∈ L, inB x.1 (valAt a b x.2) = true ∧ inB x.1 (valAt a' b' x.2) = true) → flatS a b L = flatS a' b' L → ∀ x ∈ L, valAt a b x.2 = valAt a' b' x.2 := by
  intro L
  induction L with
  | nil => intro _ _ x hx; cases hx
  | cons x L ih =>
    intro hL h
    have hx := hL x (List.mem_cons_self ..)
    have e1 : flatS a b (x :: L) = 32 :: (showK x.1 (valAt a b x.2) ++ flatS a b L) := by simp [flatS]
    have e2 : flatS a' b' (x :: L) = 32 :: (showK x.1 (valAt a' b' x.2) ++ flatS a' b' L) := by simp [flatS]
    rw [e1, e2] at h
    obtain ⟨h1, h2⟩ := split32 (showK_in hx.1) (showK_in hx.2) (flatS_led _ _ _) (flatS_led _ _ _) (List.cons.inj h).2
    intro y hy
    rcases List.mem_cons.1 hy with rfl | hy
    · exact showK_same hx.1 hx.2 h1
    · exact ih (fun y hy => hL y (List.mem_cons_of_mem _ hy)) h2 y hy
theorem name_in : ∀ k : Fin 30, ((rowOf k.val).1).all (fun c => c != 32) = true := by decide +kernel
theorem name_same : ∀ i j : Fin 30, (rowOf i.val).1 = (rowOf j.val).1 → i = j := by decide +kernel
theorem nameL_at {op : Int} (h0 : 0 ≤ op) (h1 : op < 30) : nameL op = (rowOf op.toNat).1 := by unfold nameL; rw [if_pos ⟨h0, h1⟩]
theorem showX_cut {op a b op' a' b' : Int} (h : okB op a b = true) (h' : okB op' a' b' = true) (e : showX op a b = showX op' a' b') : op = op' ∧ a = a' ∧ b = b' := by
  have h1 := ok_op h
  have h2 := ok_op h'
  unfold showX at e
  have hn : ∀ op : Int, 0 ≤ op → op < 30 → ∀ c ∈ nameL op, c ≠ 32 := fun op h0 h1 c hc => by
    rw [nameL_at h0 h1] at hc
    have := List.all_eq_true.1 (name_in ⟨op.toNat, by omega⟩) c hc
    simpa using this
  obtain ⟨e1, e2⟩ := split32 (hn op h1.1 h1.2.1) (hn op' h2.1 h2.2.1) (flatS_led _ _ _) (flatS_led _ _ _) e
  rw [nameL_at h1.1 h1.2.1, nameL_at h2.1 h2.2.1] at e1
  have := name_same ⟨op.toNat, by omega⟩ ⟨op'.toNat, by omega⟩ e1
  injection this with this
  have : op = op' := by omega
  subst this
  exact ⟨rfl, vals_same h h' (flatS_cut a b a' b' _ (fun x hx => ⟨(vals_in h x hx).2, (vals_in h' x hx).2⟩) e2)⟩
end Go.Proofs.YtamagdnlicnefaaGreatDoor
