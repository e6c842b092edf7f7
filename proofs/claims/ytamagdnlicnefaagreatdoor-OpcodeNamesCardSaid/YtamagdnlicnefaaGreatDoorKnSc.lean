/- Opcode: what Read makes of a text (no program). -/
import Derived.Lib.ItoaMem
import Derived.Lib.ParseIntBTie
import Derived.Lib.SplitLaws
import Derived.Test.YtamagdnlicnefaaGreatDoorKnSb
namespace Go.Proofs.YtamagdnlicnefaaGreatDoor
open Go.RowKit Go.Shelf Go.Lib
theorem parseUintM_app (M : Nat) (r : List UInt8) : ∀ (l : List UInt8) (acc : Nat), parseUintM M acc (l ++ r) = match parseUintM M acc l with | .ok v => parseUintM M v r | .range => .range | .syntax => .syntax := by
  intro l
  induction l with
  | nil => intro acc; rfl
  | cons c l ih =>
    intro acc
    simp only [List.cons_append, parseUintM]
    split
    · split
      · rfl
      · split
        · rfl
        · exact ih _
    · rfl
theorem parseUintM_dec (M : Nat) (hM : M ≤ 18446744073709551615) : ∀ (u : Nat), u ≤ M → parseUintM M 0 (decDigits u) = .ok u := by
  intro u
  induction u using Nat.strongRecOn with
  | ind u ih =>
    intro hu
    by_cases h : u < 10
    · rw [decDigits_one h]
      have e : (UInt8.ofNat (48 + u)).toNat = 48 + u := by rw [UInt8.toNat_ofNat']; omega
      simp only [parseUintM, e]
      rw [if_pos (by omega), if_neg (by omega), if_neg (by omega)]
      congr 1
      omega
    · rw [decDigits, dif_neg h, parseUintM_app, ih (u / 10) (by omega) (by omega)]
      have e : (UInt8.ofNat (48 + u % 10)).toNat = 48 + u % 10 := by rw [UInt8.toNat_ofNat']; omega
      simp only [parseUintM, e]
      rw [if_pos (by omega), if_neg (by omega), if_neg (by omega)]
      congr 1
      omega
theorem decDigits_ne (u : Nat) : decDigits u ≠ [] := by
  rw [decDigits]
  split <;> simp
theorem decDigits_led (u : Nat) : ∃ c r, decDigits u = c :: r ∧ c.toNat ≠ 43 ∧ c.toNat ≠ 45 := by
  induction u using Nat.strongRecOn with
  | ind u ih =>
    by_cases h : u < 10
    · rw [decDigits_one h]
      have e : (UInt8.ofNat (48 + u)).toNat = 48 + u := by rw [UInt8.toNat_ofNat']; omega
      exact ⟨_, _, rfl, by omega, by omega⟩
    · obtain ⟨c, r, h1, h2, h3⟩ := ih (u / 10) (by omega)
      rw [decDigits, dif_neg h, h1]
      exact ⟨_, _, rfl, h2, h3⟩
theorem parse_itoa (n : Int) (h0 : -9223372036854775808 ≤ n) (h1 : n ≤ 9223372036854775807) : parseIntB 64 (itoa n) = .ok n := by
  by_cases h : n < 0
  · obtain ⟨u, rfl⟩ : ∃ u : Nat, n = -(u : Int) := ⟨n.natAbs, by omega⟩
    rw [itoa_neg u (by omega), parseIntB_minus]
    have : parseUintB 64 (decDigits u) = .ok u := by
      unfold parseUintB
      rw [if_neg (decDigits_ne u), parseUintM_dec _ (by decide) u (by have : (2:Nat)^64 - 1 = 18446744073709551615 := by decide
                                                                      omega)]
    rw [this]
    simp only [signedC]
    rw [if_neg (by have : (2:Nat)^(64-1) = 9223372036854775808 := by decide
                   omega)]
  · obtain ⟨u, rfl⟩ : ∃ u : Nat, n = (u : Int) := ⟨n.toNat, by omega⟩
    rw [itoa_nonneg]
    obtain ⟨c, r, e, h2, h3⟩ := decDigits_led u
    have : parseUintB 64 (decDigits u) = .ok u := by
      unfold parseUintB
      rw [if_neg (decDigits_ne u), parseUintM_dec _ (by decide) u (by have : (2:Nat)^64 - 1 = 18446744073709551615 := by decide
                                                                      omega)]
    rw [e] at this ⊢
    rw [parseIntB_plain 64 c r h2 h3, this]
    simp only [signlessC]
    rw [if_neg (by have : (2:Nat)^(64-1) = 9223372036854775808 := by decide
                   omega)]
theorem index_at (c : UInt8) (r : List UInt8) : ∀ p : List UInt8, (∀ x ∈ p, x ≠ c) → index (p ++ c :: r) [c] = p.length := by
  intro p
  induction p with
  | nil => intro _; rw [List.nil_append, index]; simp [List.isPrefixOf]
  | cons x p ih =>
    intro h
    have hx := h x (List.mem_cons_self ..)
    have h2 := ih (fun y hy => h y (List.mem_cons_of_mem _ hy))
    rw [List.cons_append, index, h2]
    have : ([c] : List UInt8).isPrefixOf (x :: (p ++ c :: r)) = false := by simp [List.isPrefixOf, Ne.symm hx]
    rw [this]
    have hm : ¬ ((p.length : Int) == -1) = true := fun e => by have := beq_iff_eq.1 e; omega
    simp [hm]
theorem index_not (c : UInt8) : ∀ p : List UInt8, (∀ x ∈ p, x ≠ c) → index p [c] = -1 := by
  intro p
  induction p with
  | nil => intro _; simp [index]
  | cons x p ih =>
    intro h
    have hx := h x (List.mem_cons_self ..)
    have h2 := ih (fun y hy => h y (List.mem_cons_of_mem _ hy))
    rw [index, h2]
    have : ([c] : List UInt8).isPrefixOf (x :: p) = false := by simp [List.isPrefixOf, Ne.symm hx]
    rw [this]
    simp
theorem split_at (c : UInt8) (p r : List UInt8) (h : ∀ x ∈ p, x ≠ c) : split (p ++ c :: r) [c] = p :: split r [c] := by
  have hi := index_at c r p h
  unfold split
  have hc : count (p ++ c :: r) [c] = 1 + count r [c] := by
    rw [count_hit (by simp) hi]
    congr 2
    simp
  rw [hc, Nat.add_comm, splitK, hi]
  have hm : ¬ ((p.length : Int) == -1) = true := fun e => by have := beq_iff_eq.1 e; omega
  rw [if_neg hm]
  simp
theorem split_not (c : UInt8) (p : List UInt8) (h : ∀ x ∈ p, x ≠ c) : split p [c] = [p] := by
  unfold split
  rw [count_miss (index_not c p h)]
  rfl
def RdI (k : Nat) (s : ByteArray) (n : Int) : Prop := ∀ m, inB k m = true → s = ⟨(showK k m).toArray⟩ → n = m
theorem rdI_named {k : Nat} {s : ByteArray} {n : Int} (h : NmIs k s n) : RdI k s n := by
  intro m hm hs
  rcases h with ⟨h1, h2⟩ | ⟨_, h2⟩
  · refine showK_same h1 hm ?_
    rw [hs] at h2
    injection h2 with h2
    exact (by simpa using h2.symm)
  · exact absurd hs (h2 m hm)
theorem rdI_num {k : Nat} (s : ByteArray) (hk : isNamed k = false) (h10 : k ≤ 10) : RdI k s (numN s) := by
  intro m hm hs
  have hb := in_bounds hm
  have h1 := lo_ge k
  have h2 := hi_le k h10
  subst hs
  have e : showK k m = Lib.itoa m := by unfold showK; rw [if_neg (by rw [hk]; decide)]
  unfold numN
  rw [show (⟨(showK k m).toArray⟩ : ByteArray).data.toList = showK k m from by simp, e, parse_itoa m (by omega) (by omega)]
theorem split_flat (a b : Int) : ∀ (L : List (Nat × Nat)) (p : List UInt8), (∀ x ∈ p, x ≠ 32) → (∀ x ∈ L, inB x.1 (valAt a b x.2) = true) → split (p ++ flatS a b L) [32] = p :: L.map (fun x => showK x.1 (valAt a b x.2)) := by
  intro L
  induction L with
  | nil => intro p hp _; rw [show flatS a b [] = [] from rfl, List.append_nil, split_not 32 p hp]; rfl
  | cons x L ih =>
    intro p hp hL
    have e1 : flatS a b (x :: L) = 32 :: (showK x.1 (valAt a b x.2) ++ flatS a b L) := by simp [flatS]
    rw [e1, split_at 32 p _ hp, ih _ (showK_in (hL x (List.mem_cons_self ..))) (fun y hy => hL y (List.mem_cons_of_mem _ hy))]
    rfl
theorem nameL_in {op : Int} (h0 : 0 ≤ op) (h1 : op < 30) : ∀ c ∈ nameL op, c ≠ 32 := by
  intro c hc
  rw [nameL_at h0 h1] at hc
  have := List.all_eq_true.1 (name_in ⟨op.toNat, by omega⟩) c hc
  simpa using this
theorem split_show {op a b : Int} (h : okB op a b = true) : split (showX op a b) [32] = nameL op :: (opsL (ka op) (kb op)).map (fun x => showK x.1 (valAt a b x.2)) := by
  have h1 := ok_op h
  exact split_flat a b _ _ (nameL_in h1.1 h1.2.1) (fun x hx => (vals_in h x hx).2)
theorem ops_pre {k1 k2 : Nat} {pre : List (Nat × Nat)} {x : Nat × Nat} (h : pre ++ [x] <+: opsL k1 k2) : (∀ y ∈ pre, y.2 ≠ x.2) ∧ (x.2 = 1 ∨ x.2 = 2) := by
  have key : ∀ L : List (Nat × Nat), (L = [] ∨ (∃ k, L = [(k, 1)]) ∨ (∃ k, L = [(k, 2)]) ∨ ∃ k k', L = [(k, 1), (k', 2)]) → pre ++ [x] <+: L → (∀ y ∈ pre, y.2 ≠ x.2) ∧ (x.2 = 1 ∨ x.2 = 2) := by
    rintro L hL ⟨t, ht⟩
    match pre, ht with
    | [], ht =>
      refine ⟨fun y hy => (nomatch hy), ?_⟩
      rcases hL with rfl | ⟨k, rfl⟩ | ⟨k, rfl⟩ | ⟨k, k', rfl⟩ <;> simp at ht <;> simp [ht]
    | [y], ht =>
      rcases hL with rfl | ⟨k, rfl⟩ | ⟨k, rfl⟩ | ⟨k, k', rfl⟩ <;> simp at ht <;> simp [ht]
    | y :: z :: r, ht =>
      have := congrArg List.length ht
      rcases hL with rfl | ⟨k, rfl⟩ | ⟨k, rfl⟩ | ⟨k, k', rfl⟩ <;> simp at this
  refine key _ ?_ h
  unfold opsL
  by_cases h1 : k1 = 0 <;> by_cases h2 : k2 = 0
  · exact .inl (by simp [h1, h2])
  · exact .inr (.inr (.inl ⟨k2, by simp [h1, h2]⟩))
  · exact .inr (.inl ⟨k1, by simp [h1, h2]⟩)
  · exact .inr (.inr (.inr ⟨k1, k2, by simp [h1, h2]⟩))
def RdC (s : ByteArray) (op A B : Int) (pre : List (Nat × Nat)) : Prop := ∀ a b, okB op a b = true → s.data.toList = showX op a b → (∀ x ∈ pre, valAt A B x.2 = valAt a b x.2) ∧ (∀ o, (o = 1 ∨ o = 2) → (∀ x ∈ pre, x.2 ≠ o) → valAt A B o = 0)
theorem RdC.nil (s : ByteArray) (op : Int) : RdC s op 0 0 [] := fun _ _ _ _ => ⟨fun x hx => (nomatch hx), fun o ho _ => by rcases ho with rfl | rfl <;> rfl⟩
def setO (A B : Int) (o : Nat) (n : Int) : Int × Int := if o = 1 then (n, B) else (A, n)
theorem valAt_set (A B : Int) (o : Nat) (n : Int) (ho : o = 1 ∨ o = 2) : valAt (setO A B o n).1 (setO A B o n).2 o = n ∧ ∀ o', (o' = 1 ∨ o' = 2) → o' ≠ o → valAt (setO A B o n).1 (setO A B o n).2 o' = valAt A B o' := by
  rcases ho with rfl | rfl
  · refine ⟨rfl, fun o' ho' hne => ?_⟩
    rcases ho' with rfl | rfl
    · exact absurd rfl hne
    · rfl
  · refine ⟨rfl, fun o' ho' hne => ?_⟩
    rcases ho' with rfl | rfl
    · rfl
    · exact absurd rfl hne
theorem RdC.hit {s sk : ByteArray} {op A B n : Int} {pre : List (Nat × Nat)} {kk o : Nat} (h : RdC s op A B pre) (hadm : pre ++ [(kk, o)] <+: opsL (ka op) (kb op)) (hp : (split s.data.toList [32])[pre.length + 1]? = some sk.data.toList) (hn : RdI kk sk n) : RdC s op (setO A B o n).1 (setO A B o n).2 (pre ++ [(kk, o)]) := by
  intro a b hok hs
  obtain ⟨h1, h2⟩ := h a b hok hs
  obtain ⟨q1, q2⟩ := ops_pre hadm
  simp only at q1 q2
  obtain ⟨v1, v2⟩ := valAt_set A B o n q2
  have hin : (kk, o) ∈ opsL (ka op) (kb op) := hadm.subset (List.mem_append_right _ (List.mem_singleton.2 rfl))
  have hval := vals_in hok _ hin
  have hnv : n = valAt a b o := by
    refine hn _ hval.2 ?_
    rw [hs, split_show hok, List.getElem?_cons_succ, List.getElem?_map] at hp
    obtain ⟨t, ht⟩ := hadm
    rw [← ht, List.append_assoc, List.getElem?_append_right (Nat.le_refl _), Nat.sub_self] at hp
    simp only [List.singleton_append, List.getElem?_cons_zero, Option.map_some, Option.some.injEq] at hp
    obtain ⟨⟨sk⟩⟩ := sk
    simp only at hp
    rw [hp]
  have hmem : ∀ y ∈ pre, y.2 = 1 ∨ y.2 = 2 := fun y hy => by
    have : y ∈ opsL (ka op) (kb op) := hadm.subset (List.mem_append_left _ hy)
    exact (ok_mem hok (kk := y.1) (o := y.2) this).2.2
  refine ⟨fun x hx => ?_, fun o' ho' hne => ?_⟩
  · rcases List.mem_append.1 hx with hx | hx
    · rw [v2 x.2 (hmem x hx) (q1 x hx)]; exact h1 x hx
    · rw [List.mem_singleton.1 hx, v1]; exact hnv
  · have hoo : o' ≠ o := fun e => hne (kk, o) (List.mem_append_right _ (List.mem_singleton.2 rfl)) e.symm
    rw [v2 o' ho' hoo]
    exact h2 o' ho' (fun x hx => hne x (List.mem_append_left _ hx))
theorem RdC.miss {s : ByteArray} {op A B : Int} {pre : List (Nat × Nat)} {kk o : Nat} (hadm : pre ++ [(kk, o)] <+: opsL (ka op) (kb op)) (hp : (split s.data.toList [32]).length ≤ pre.length + 1) : RdC s op A B (pre ++ [(kk, o)]) := by
  intro a b hok hs
  rw [hs, split_show hok] at hp
  have := hadm.length_le
  simp at hp this
  omega
theorem RdC.all {s : ByteArray} {op A B : Int} (h : RdC s op A B (opsL (ka op) (kb op))) {a b : Int} (hok : okB op a b = true) (hs : s.data.toList = showX op a b) : A = a ∧ B = b := by
  obtain ⟨h1, h2⟩ := h a b hok hs
  have h3 := ok_op hok
  constructor
  · by_cases hk : ka op = 0
    · have := h2 1 (.inl rfl) (fun x hx e => by unfold opsL at hx; rw [if_pos hk, List.nil_append] at hx; split at hx; · cases hx
                                                · rw [List.mem_singleton.1 hx] at e; cases e)
      rw [hk] at h3
      rw [in_zero h3.2.2.1]; exact this
    · exact h1 (ka op, 1) (by simp [opsL, hk])
  · by_cases hk : kb op = 0
    · have := h2 2 (.inr rfl) (fun x hx e => by unfold opsL at hx; rw [if_pos hk, List.append_nil] at hx; split at hx; · cases hx
                                                · rw [List.mem_singleton.1 hx] at e; cases e)
      rw [hk] at h3
      rw [in_zero h3.2.2.2]; exact this
    · exact h1 (kb op, 2) (by simp [opsL, hk])
def ReadIs (s : ByteArray) (op a b c : Int) : Prop := (c = 0 ∧ okB op a b = true ∧ s.data.toList = showX op a b) ∨ (c = 40 ∧ op = 0 ∧ a = 0 ∧ b = 0 ∧ ∀ op a b, okB op a b = true → s.data.toList ≠ showX op a b)
theorem data_mk (l : List UInt8) : (⟨l.toArray⟩ : ByteArray).data.toList = l := by simp
theorem name_some : ∀ k : Fin 30, (rowOf k.val).1 ≠ [] := by decide +kernel
theorem readIs_of {s sk : ByteArray} {r : Int} (h0 : (split s.data.toList [32])[0]? = some sk.data.toList) (h : OfIs sk r 40) : ReadIs s 0 0 0 40 := by
  rcases h with ⟨k, hk, _, h, _⟩ | ⟨_, _, h⟩
  · cases h
  · refine .inr ⟨rfl, rfl, rfl, rfl, fun op a b hok hs => ?_⟩
    have h1 := ok_op hok
    rw [hs, split_show hok, List.getElem?_cons_zero] at h0
    refine h op.toNat (by omega) ?_
    rw [nameL_at h1.1 h1.2.1] at h0
    injection h0 with h0
    obtain ⟨⟨sk⟩⟩ := sk
    simp only at h0
    rw [h0]
theorem readIs_ok {s : ByteArray} {op A B : Int} {sk : ByteArray} {k : Nat} (_ : op = k) (hk : k < 30) (hsk : sk = ⟨((rowOf k).1).toArray⟩) (h0 : (split s.data.toList [32])[0]? = some sk.data.toList) (hs : (⟨(showW op A B).toArray⟩ : ByteArray) = s) : ReadIs s op A B 0 := by
  refine .inl ⟨rfl, ?_⟩
  by_cases hok : okB op A B = true
  · refine ⟨hok, ?_⟩
    rw [← hs, data_mk]
    unfold showW
    rw [if_pos hok]
  · exfalso
    unfold showW at hs
    rw [if_neg hok] at hs
    rw [← hs, hsk, data_mk, data_mk] at h0
    rw [split_not 32 [] (fun x hx => (nomatch hx))] at h0
    injection h0 with h0
    exact name_some ⟨k, hk⟩ h0.symm
theorem readIs_no {s : ByteArray} {op A B : Int} {sk : ByteArray} {k : Nat} (hop : op = k) (hk : k < 30) (hsk : sk = ⟨((rowOf k).1).toArray⟩) (h0 : (split s.data.toList [32])[0]? = some sk.data.toList) (hc : RdC s op A B (opsL (ka op) (kb op))) (hs : (⟨(showW op A B).toArray⟩ : ByteArray) ≠ s) : ReadIs s 0 0 0 40 := by
  refine .inr ⟨rfl, rfl, rfl, rfl, fun op' a b hok e => ?_⟩
  have h1 := ok_op hok
  have hn : op' = op := by
    rw [e, split_show hok, List.getElem?_cons_zero, nameL_at h1.1 h1.2.1, hsk, data_mk] at h0
    injection h0 with h0
    have := name_same ⟨op'.toNat, by omega⟩ ⟨k, hk⟩ h0
    injection this with this
    omega
  subst hn
  obtain ⟨rfl, rfl⟩ := hc.all hok e
  refine hs ?_
  unfold showW
  rw [if_pos hok, ← e]
theorem readIs_uniq {s : ByteArray} {op a b c op' a' b' c' : Int} (h : ReadIs s op a b c) (h' : ReadIs s op' a' b' c') : op = op' ∧ a = a' ∧ b = b' ∧ c = c' := by
  rcases h with ⟨rfl, h1, h2⟩ | ⟨rfl, rfl, rfl, rfl, h1⟩ <;> rcases h' with ⟨rfl, h3, h4⟩ | ⟨rfl, rfl, rfl, rfl, h3⟩
  · obtain ⟨rfl, rfl, rfl⟩ := showX_cut h1 h3 (h2.symm.trans h4)
    exact ⟨rfl, rfl, rfl, rfl⟩
  · exact absurd h2 (h3 _ _ _ h1)
  · exact absurd h4 (h1 _ _ _ h3)
  · exact ⟨rfl, rfl, rfl, rfl⟩
end Go.Proofs.YtamagdnlicnefaaGreatDoor
