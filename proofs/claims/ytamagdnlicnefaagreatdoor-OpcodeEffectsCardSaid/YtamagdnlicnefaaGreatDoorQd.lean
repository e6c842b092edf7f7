/- Opcode: what bytes, and texts, tell (no program). -/
import Derived.Test.YtamagdnlicnefaaGreatDoorQc
namespace Go.Proofs.YtamagdnlicnefaaGreatDoor
open Go.RowKit Go.Shelf

theorem encQ_lt (n : Nat) (h : n < 18446744073709551616) : ∀ b ∈ VP.enc n, b < 256 := by
  intro b hb
  unfold VP.enc at hb
  rcases List.mem_cons.1 hb with rfl | hb
  · have := VP.first_cases n h
    omega
  · exact VP.be_lt _ _ _ hb
theorem encI_in (n : Nat) (hn : n < 18446744073709551616) : ∀ b ∈ encI n, 0 ≤ b ∧ b ≤ 255 := by
  intro b hb
  obtain ⟨y, hy, rfl⟩ := List.mem_map.1 hb
  have := encQ_lt n hn y hy
  simp only [Int.ofNat_eq_natCast]
  omega
theorem encI_cut {m n : Nat} (hm : m < 18446744073709551616) (hn : n < 18446744073709551616) {x y : List Int} (h : encI m ++ x = encI n ++ y) : m = n ∧ x = y := by
  have h1 := congrArg (List.map Int.toNat) h
  simp only [List.map_append, encI, List.map_map] at h1
  have e : ∀ l : List Nat, l.map (Int.toNat ∘ Int.ofNat) = l := fun l => by rw [show (Int.toNat ∘ Int.ofNat) = id from rfl, List.map_id]
  rw [e, e] at h1
  have h2 := (VP.enc_prefix hm hn h1).1
  subst h2
  exact ⟨rfl, List.append_cancel_left h⟩
theorem zigQ_inj {a b : Int} (h : Lib.zigzag a = Lib.zigzag b) : a = b := by
  unfold Lib.zigzag at h
  split at h <;> split at h <;> omega
theorem in_bounds {k : Nat} {n : Int} (h : inB k n = true) : lo k ≤ n ∧ n ≤ hi k := by
  unfold inB at h
  simpa only [Bool.and_eq_true, decide_eq_true_eq] using h
/-- The number that stands for an operand. -/
def opN (k : Nat) (n : Int) : Nat := if k = 1 then Lib.zigzag n else n.toNat
theorem opB_eq (k : Nat) (n : Int) : opB k n = encI (opN k n) := by unfold opB opN; split <;> rfl
theorem opN_lt {k : Nat} {n : Int} (h : inB k n = true) (hk : k ≤ 10) : opN k n < 18446744073709551616 := by
  have h1 := in_bounds h
  have h2 := lo_ge k
  have h3 := hi_le k hk
  unfold opN
  split
  · exact Lib.zigzag_lt (by omega) (by omega)
  · omega
theorem opN_inj {k : Nat} {n m : Int} (h : inB k n = true) (h' : inB k m = true) (e : opN k n = opN k m) : n = m := by
  have h1 := in_bounds h
  have h2 := in_bounds h'
  unfold opN at e
  split at e
  · exact zigQ_inj e
  · rename_i hk
    have := lo_nat k hk
    omega
theorem flatB_cut (a b a' b' : Int) : ∀ (L : List (Nat × Nat)) (t s : List Int), (∀ x ∈ L, x.1 ≤ 10 ∧ inB x.1 (valAt a b x.2) = true ∧ inB x.1 (valAt a' b' x.2) = true) → flatB a b L ++ t = flatB a' b' L ++ s → (∀ x ∈ L, valAt a b x.2 = valAt a' b' x.2) ∧ t = s := by
  intro L
  induction L with
  | nil => intro t s _ h; exact ⟨fun x hx => (nomatch hx), by simpa [flatB] using h⟩
  | cons x L ih =>
    intro t s hL h
    have hx := hL x (List.mem_cons_self ..)
    have e1 : flatB a b (x :: L) ++ t = encI (opN x.1 (valAt a b x.2)) ++ (flatB a b L ++ t) := by rw [← opB_eq]; simp [flatB]
    have e2 : flatB a' b' (x :: L) ++ s = encI (opN x.1 (valAt a' b' x.2)) ++ (flatB a' b' L ++ s) := by rw [← opB_eq]; simp [flatB]
    rw [e1, e2] at h
    obtain ⟨h1, h2⟩ := encI_cut (opN_lt hx.2.1 hx.1) (opN_lt hx.2.2 hx.1) h
    obtain ⟨h3, h4⟩ := ih t s (fun y hy => hL y (List.mem_cons_of_mem _ hy)) h2
    refine ⟨fun y hy => ?_, h4⟩
    rcases List.mem_cons.1 hy with rfl | hy
    · exact opN_inj hx.2.1 hx.2.2 h1
    · exact h3 y hy
theorem ok_op {op a b : Int} (h : okB op a b = true) : 0 ≤ op ∧ op < 30 ∧ inB (ka op) a = true ∧ inB (kb op) b = true := by
  unfold okB knownB at h
  simp only [Bool.and_eq_true, decide_eq_true_eq] at h
  exact ⟨h.1.1, h.1.2, h.2.1, h.2.2⟩
theorem in_zero {n : Int} (h : inB 0 n = true) : n = 0 := by
  have h1 := in_bounds h
  have : lo 0 = 0 := by decide
  have : hi 0 = 0 := by decide
  omega
theorem vals_same {op a b a' b' : Int} (h : okB op a b = true) (h' : okB op a' b' = true) (hv : ∀ x ∈ opsL (ka op) (kb op), valAt a b x.2 = valAt a' b' x.2) : a = a' ∧ b = b' := by
  have h1 := ok_op h
  have h2 := ok_op h'
  constructor
  · by_cases hk : ka op = 0
    · rw [hk] at h1 h2
      rw [in_zero h1.2.2.1, in_zero h2.2.2.1]
    · exact hv (ka op, 1) (by simp [opsL, hk])
  · by_cases hk : kb op = 0
    · rw [hk] at h1 h2
      rw [in_zero h1.2.2.2, in_zero h2.2.2.2]
    · exact hv (kb op, 2) (by simp [opsL, hk])
theorem vals_in {op a b : Int} (h : okB op a b = true) (x : Nat × Nat) (hx : x ∈ opsL (ka op) (kb op)) : x.1 ≤ 10 ∧ inB x.1 (valAt a b x.2) = true := by
  have h1 := ok_op h
  rcases opsL_mem hx with ⟨rfl, _⟩ | ⟨rfl, _⟩
  · exact ⟨ka_le _, h1.2.2.1⟩
  · exact ⟨kb_le _, h1.2.2.2⟩
theorem encX_cut {op a b op' a' b' : Int} (h : okB op a b = true) (h' : okB op' a' b' = true) (t s : List Int) (e : encX op a b ++ t = encX op' a' b' ++ s) : op = op' ∧ a = a' ∧ b = b' := by
  have h1 := ok_op h
  have h2 := ok_op h'
  unfold encX at e
  rw [List.append_assoc, List.append_assoc] at e
  obtain ⟨e1, e2⟩ := encI_cut (by omega) (by omega) e
  have : op = op' := by omega
  subst this
  exact ⟨rfl, vals_same h h' (flatB_cut a b a' b' _ t s (fun x hx => ⟨(vals_in h x hx).1, (vals_in h x hx).2, (vals_in h' x hx).2⟩) e2).1⟩
theorem encX_in {op a b : Int} (h : okB op a b = true) : ∀ c ∈ encX op a b, 0 ≤ c ∧ c ≤ 255 := by
  intro c hc
  unfold encX at hc
  rcases List.mem_append.1 hc with hc | hc
  · exact encI_in _ (by have := ok_op h; omega) c hc
  · unfold flatB at hc
    obtain ⟨l, hl, hc⟩ := List.mem_flatten.1 hc
    obtain ⟨x, hx, rfl⟩ := List.mem_map.1 hl
    have := vals_in h x hx
    rw [opB_eq] at hc
    exact encI_in _ (opN_lt this.2 this.1) c hc
theorem encX_ne (op a b : Int) : encX op a b ≠ [] := by
  unfold encX encI VP.enc
  simp

theorem back_nums (xs : List Int) (h : ∀ c ∈ xs, 0 ≤ c ∧ c ≤ 255) : (strOfNums xs).data.toList.map (fun c => (c.toNat : Int)) = xs := by
  rw [strOfNums_data, List.map_map]
  conv => rhs; rw [← List.map_id xs]
  apply List.map_congr_left
  intro c hc
  have := h c hc
  simp only [Function.comp, id]
  rw [UInt8.toNat_ofNat']
  omega
/-- One's bytes are the beginning of the other's just if both are the same. -/
theorem bytes_pre {op a b op' a' b' : Int} (h : okB op a b = true) (h' : okB op' a' b' = true) : Lib.hasPrefix (strOfNums (bytesW op' a' b')).data.toList (strOfNums (bytesW op a b)).data.toList = true ↔ (op = op' ∧ a = a' ∧ b = b') := by
  unfold bytesW Lib.hasPrefix
  rw [if_pos h, if_pos h', List.isPrefixOf_iff_prefix]
  constructor
  · rintro ⟨t, ht⟩
    have e := congrArg (List.map (fun c : UInt8 => (c.toNat : Int))) ht
    rw [List.map_append, back_nums _ (encX_in h), back_nums _ (encX_in h')] at e
    exact encX_cut h h' _ [] (by rw [e, List.append_nil])
  · rintro ⟨rfl, rfl, rfl⟩
    exact List.prefix_rfl
theorem bytes_same {op a b op' a' b' : Int} (h : okB op a b = true) (h' : okB op' a' b' = true) : strOfNums (bytesW op a b) = strOfNums (bytesW op' a' b') ↔ (op = op' ∧ a = a' ∧ b = b') := by
  constructor
  · intro e
    refine (bytes_pre h h').1 ?_
    rw [e]
    unfold Lib.hasPrefix
    rw [List.isPrefixOf_iff_prefix]
    exact List.prefix_rfl
  · rintro ⟨rfl, rfl, rfl⟩; rfl
theorem bytes_none (op a b : Int) : strOfNums (bytesW op a b) = ⟨#[]⟩ ↔ okB op a b = false := by
  unfold bytesW
  by_cases h : okB op a b = true
  · rw [if_pos h]
    constructor
    · intro e
      have := congrArg ByteArray.size e
      rw [strOfNums_size] at this
      have h0 : (encX op a b).length = 0 := this
      exact absurd (List.length_eq_zero_iff.1 h0) (encX_ne op a b)
    · intro e; rw [h] at e; cases e
  · rw [if_neg h]
    exact ⟨fun _ => by simpa using h, fun _ => rfl⟩

/-! ### texts -/
theorem split32 {u v r s : List UInt8} (hu : ∀ c ∈ u, c ≠ 32) (hv : ∀ c ∈ v, c ≠ 32) (hr : r = [] ∨ ∃ t, r = 32 :: t) (hs : s = [] ∨ ∃ t, s = 32 :: t) (h : u ++ r = v ++ s) : u = v ∧ r = s := by
  have key : ∀ (u r : List UInt8), (∀ c ∈ u, c ≠ 32) → (r = [] ∨ ∃ t, r = 32 :: t) → (u ++ r).takeWhile (fun c => c != 32) = u := by
    intro u r hu hr
    rw [List.takeWhile_append_of_pos (fun c hc => by simpa using hu c hc)]
    rcases hr with rfl | ⟨t, rfl⟩ <;> simp
  have e := congrArg (List.takeWhile (fun c => c != 32)) h
  rw [key u r hu hr, key v s hv hs] at e
  subst e
  exact ⟨rfl, List.append_cancel_left h⟩
def dv (l : List UInt8) : Nat := l.foldl (fun x c => 10 * x + (c.toNat - 48)) 0
theorem dv_dec : ∀ u : Nat, dv (Lib.decDigits u) = u ∧ ∀ c ∈ Lib.decDigits u, 48 ≤ c.toNat := by
  intro u
  induction u using Nat.strongRecOn with
  | ind u ih =>
    have hd : ∀ d : Nat, d < 10 → (UInt8.ofNat (48 + d)).toNat = 48 + d := fun d h => by rw [UInt8.toNat_ofNat']; omega
    rw [Lib.decDigits]
    split
    · rename_i h
      refine ⟨?_, fun c hc => ?_⟩
      · show 10 * 0 + ((UInt8.ofNat (48 + u)).toNat - 48) = u
        rw [hd u h]; omega
      · rw [List.mem_singleton.1 hc, hd u h]; omega
    · rename_i h
      obtain ⟨h1, h2⟩ := ih (u / 10) (by omega)
      refine ⟨?_, fun c hc => ?_⟩
      · unfold dv at h1 ⊢
        rw [List.foldl_append, h1]
        show 10 * (u / 10) + ((UInt8.ofNat (48 + u % 10)).toNat - 48) = u
        rw [hd _ (by omega)]; omega
      · rcases List.mem_append.1 hc with hc | hc
        · exact h2 c hc
        · rw [List.mem_singleton.1 hc, hd _ (by omega)]; omega
theorem itoa_in (n : Int) : ∀ c ∈ Lib.itoa n, c ≠ 32 := by
  intro c hc e
  subst e
  unfold Lib.itoa at hc
  split at hc
  · rcases List.mem_cons.1 hc with h | h
    · exact absurd h (by decide)
    · exact absurd ((dv_dec _).2 _ h) (by decide)
  · exact absurd ((dv_dec _).2 _ hc) (by decide)
theorem itoa_same {n m : Int} (h : Lib.itoa n = Lib.itoa m) : n = m := by
  have no : ∀ (l : List UInt8) (u : Nat), 45 :: l ≠ Lib.decDigits u := fun l u e => by
    have := (dv_dec u).2 45 (by rw [← e]; exact List.mem_cons_self ..)
    exact absurd this (by decide)
  unfold Lib.itoa at h
  split at h <;> split at h
  · have e := congrArg dv (List.cons.inj h).2
    rw [(dv_dec _).1, (dv_dec _).1] at e
    omega
  · exact absurd h (no _ _)
  · exact absurd h.symm (no _ _)
  · have e := congrArg dv h
    rw [(dv_dec _).1, (dv_dec _).1] at e
    omega
theorem bin_in : ∀ i : Fin 14, (binL i.val).all (fun c => c != 32) = true := by decide +kernel
theorem un_in : ∀ i : Fin 9, (unL i.val).all (fun c => c != 32) = true := by decide +kernel
theorem bin_same : ∀ i j : Fin 14, binL i.val = binL j.val → i = j := by decide +kernel
theorem un_same : ∀ i j : Fin 9, unL i.val = unL j.val → i = j := by decide +kernel
theorem named_cases {k : Nat} (hk : isNamed k = true) : k = 2 ∨ k = 3 ∨ k = 8 ∨ k = 9 := by
  unfold isNamed at hk
  simp only [Bool.or_eq_true, beq_iff_eq] at hk
  omega
theorem showK_in {k : Nat} {n : Int} (h : inB k n = true) : ∀ c ∈ showK k n, c ≠ 32 := by
  intro c hc
  have h1 := in_bounds h
  unfold showK at hc
  split at hc
  · rename_i hk
    rcases named_cases hk with rfl | rfl | rfl | rfl
    · revert hc
      simp only [show (2 : Nat) ≠ 8 from by decide, show (2 : Nat) ≠ 9 from by decide, if_false]
      unfold letterL
      split <;> (try split) <;> (try split) <;> simp <;> rintro rfl <;> decide
    · revert hc
      simp only [show (3 : Nat) ≠ 8 from by decide, show (3 : Nat) ≠ 9 from by decide, if_false]
      unfold letterL
      split <;> (try split) <;> (try split) <;> simp <;> rintro rfl <;> decide
    · obtain ⟨m, rfl⟩ := Int.eq_ofNat_of_zero_le (show 0 ≤ n from h1.1)
      have : (m : Int) ≤ 13 := h1.2
      have := List.all_eq_true.1 (bin_in ⟨m, by omega⟩) c hc
      simpa using this
    · obtain ⟨m, rfl⟩ := Int.eq_ofNat_of_zero_le (show 0 ≤ n from h1.1)
      have : (m : Int) ≤ 8 := h1.2
      have := List.all_eq_true.1 (un_in ⟨m, by omega⟩) c hc
      simpa using this
  · exact itoa_in n c hc
theorem letter_same {n m : Int} (h1 : 1 ≤ n ∧ n ≤ 4) (h2 : 1 ≤ m ∧ m ≤ 4) (e : letterL n = letterL m) : n = m := by
  have h : (n = 1 ∨ n = 2 ∨ n = 3 ∨ n = 4) ∧ (m = 1 ∨ m = 2 ∨ m = 3 ∨ m = 4) := by omega
  obtain ⟨h3, h4⟩ := h
  rcases h3 with rfl | rfl | rfl | rfl <;> rcases h4 with rfl | rfl | rfl | rfl <;> first | rfl | exact absurd e (by decide)
theorem showK_same {k : Nat} {n m : Int} (h : inB k n = true) (h' : inB k m = true) (e : showK k n = showK k m) : n = m := by
  have h1 := in_bounds h
  have h2 := in_bounds h'
  unfold showK at e
  by_cases hk : isNamed k = true
  · rw [if_pos hk, if_pos hk] at e
    rcases named_cases hk with rfl | rfl | rfl | rfl
    · exact letter_same h1 h2 e
    · exact letter_same ⟨h1.1, Int.le_trans h1.2 (by decide)⟩ ⟨h2.1, Int.le_trans h2.2 (by decide)⟩ e
    · obtain ⟨x, rfl⟩ := Int.eq_ofNat_of_zero_le (show 0 ≤ n from h1.1)
      obtain ⟨y, rfl⟩ := Int.eq_ofNat_of_zero_le (show 0 ≤ m from h2.1)
      have hx : (x : Int) ≤ 13 := h1.2
      have hy : (y : Int) ≤ 13 := h2.2
      have := bin_same ⟨x, by omega⟩ ⟨y, by omega⟩ e
      injection this with this
      rw [this]
    · obtain ⟨x, rfl⟩ := Int.eq_ofNat_of_zero_le (show 0 ≤ n from h1.1)
      obtain ⟨y, rfl⟩ := Int.eq_ofNat_of_zero_le (show 0 ≤ m from h2.1)
      have hx : (x : Int) ≤ 8 := h1.2
      have hy : (y : Int) ≤ 8 := h2.2
      have := un_same ⟨x, by omega⟩ ⟨y, by omega⟩ e
      injection this with this
      rw [this]
  · rw [if_neg hk, if_neg hk] at e
    exact itoa_same e
theorem flatS_led (a b : Int) (L : List (Nat × Nat)) : flatS a b L = [] ∨ ∃ t, flatS a b L = 32 :: t := by
  cases L with
  | nil => exact .inl rfl
  | cons x L => exact .inr ⟨_, rfl⟩
theorem flatS_cut (a b a' b' : Int) : ∀ (L : List (Nat × Nat)), (∀ x ∈ L, inB x.1 (valAt a b x.2) = true ∧ inB x.1 (valAt a' b' x.2) = true) → flatS a b L = flatS a' b' L → ∀ x ∈ L, valAt a b x.2 = valAt a' b' x.2 := by
  intro L
  induction L with
  | nil => intro _ _ x hx; cases hx
  | cons x L ih =>
    intro hL h
    have hx := hL x (List.mem_cons_self ..)
    have e1 : flatS a b (x :: L) = 32 :: (showK x.1 (valAt a b x.2) ++ flatS a b L) := by simp [flatS]
    have e2 : flatS a' b' (x :: L) = 32 :: (showK x.1 (valAt a' b' x.2) ++ flatS a' b' L) := by simp [flatS]
    rw [e1, e2] at h
    obtain ⟨h1, h2⟩ := split32 (showK_in hx.1) (showK_in hx.2) (flatS_led _ _ _) (flatS_led _ _ _) (List.cons.inj h).2
    intro y hy
    rcases List.mem_cons.1 hy with rfl | hy
    · exact showK_same hx.1 hx.2 h1
    · exact ih (fun y hy => hL y (List.mem_cons_of_mem _ hy)) h2 y hy
theorem name_in : ∀ k : Fin 30, ((rowOf k.val).1).all (fun c => c != 32) = true := by decide +kernel
theorem name_same : ∀ i j : Fin 30, (rowOf i.val).1 = (rowOf j.val).1 → i = j := by decide +kernel
theorem nameL_at {op : Int} (h0 : 0 ≤ op) (h1 : op < 30) : nameL op = (rowOf op.toNat).1 := by unfold nameL; rw [if_pos ⟨h0, h1⟩]
theorem showX_cut {op a b op' a' b' : Int} (h : okB op a b = true) (h' : okB op' a' b' = true) (e : showX op a b = showX op' a' b') : op = op' ∧ a = a' ∧ b = b' := by
  have h1 := ok_op h
  have h2 := ok_op h'
  unfold showX at e
  have hn : ∀ op : Int, 0 ≤ op → op < 30 → ∀ c ∈ nameL op, c ≠ 32 := fun op h0 h1 c hc => by
    rw [nameL_at h0 h1] at hc
    have := List.all_eq_true.1 (name_in ⟨op.toNat, by omega⟩) c hc
    simpa using this
  obtain ⟨e1, e2⟩ := split32 (hn op h1.1 h1.2.1) (hn op' h2.1 h2.2.1) (flatS_led _ _ _) (flatS_led _ _ _) e
  rw [nameL_at h1.1 h1.2.1, nameL_at h2.1 h2.2.1] at e1
  have := name_same ⟨op.toNat, by omega⟩ ⟨op'.toNat, by omega⟩ e1
  injection this with this
  have : op = op' := by omega
  subst this
  exact ⟨rfl, vals_same h h' (flatS_cut a b a' b' _ (fun x hx => ⟨(vals_in h x hx).2, (vals_in h' x hx).2⟩) e2)⟩
theorem show_same {op a b op' a' b' : Int} (h : okB op a b = true) (h' : okB op' a' b' = true) : (⟨(showW op a b).toArray⟩ : ByteArray) = ⟨(showW op' a' b').toArray⟩ ↔ (op = op' ∧ a = a' ∧ b = b') := by
  unfold showW
  rw [if_pos h, if_pos h']
  constructor
  · intro e
    injection e with e
    exact showX_cut h h' (by simpa using e)
  · rintro ⟨rfl, rfl, rfl⟩; rfl
end Go.Proofs.YtamagdnlicnefaaGreatDoor
