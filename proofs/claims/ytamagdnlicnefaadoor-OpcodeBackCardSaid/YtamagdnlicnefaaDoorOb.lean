/- Opcode: Kinds, number, named, of, in. -/
import Derived.Test.YtamagdnlicnefaaDoorOa
import Derived.Test.YtamagdnlicnefaaDoorRb
import Derived.Laws.EntriesVeiled
import Derived.Laws.Tables
namespace Go.Proofs.YtamagdnlicnefaaDoor
open Go.RowKit Go.Proofs.YtamagdnlicnefaaDoorW.PrintWords Go.Proofs.YtamagdnlicnefaaDoorW.PrintLast Go.Proofs.YtamagdnlicnefaaDoorW.PrintMore

set_option maxRecDepth 100000 in
theorem rows_part (k : Nat) (hk : k < 30) : Value.agg (rowsC.extract (k * 6) (k * 6 + 6)) = rowV k := by
  have h : k = 0 ∨ k = 1 ∨ k = 2 ∨ k = 3 ∨ k = 4 ∨ k = 5 ∨ k = 6 ∨ k = 7 ∨ k = 8 ∨ k = 9 ∨ k = 10 ∨ k = 11 ∨ k = 12 ∨ k = 13 ∨ k = 14 ∨ k = 15 ∨ k = 16 ∨ k = 17 ∨ k = 18 ∨ k = 19 ∨ k = 20 ∨ k = 21 ∨ k = 22 ∨ k = 23 ∨ k = 24 ∨ k = 25 ∨ k = 26 ∨ k = 27 ∨ k = 28 ∨ k = 29 := by omega
  rcases h with rfl | rfl | rfl | rfl | rfl | rfl | rfl | rfl | rfl | rfl | rfl | rfl | rfl | rfl | rfl | rfl | rfl | rfl | rfl | rfl | rfl | rfl | rfl | rfl | rfl | rfl | rfl | rfl | rfl | rfl <;> rfl
theorem size92 : ∃ i, Tryd.prog.info? 92 = some i ∧ i.size = 6 := by
  obtain ⟨i, hi, hs⟩ := Option.map_eq_some_iff.1 (show (Tryd.prog.info? 92).map (·.size) = some 6 by kernel_rfl)
  exact ⟨i, hi, hs⟩
theorem index93 (k : Nat) (hk : k < 30) (w : World) : (Instr.index 93 (.agg rowsC) (.int .i64 k)).run Tryd.prog w = .ok (rowV k) w := by
  obtain ⟨i, hi, hs⟩ := size92
  have h1 : (0 : Int) ≤ k ∧ (k : Int) < 30 := ⟨by omega, by omega⟩
  have h2 := rows_part k hk
  have h3 : ¬ 30 ≤ k := by omega
  simp [Instr.index, asIntOf, run_underlying Tryd.underlying93, h1, part, isAgg, run_underlying Tryd.underlying92, sizeOf, typeInfo, hi, hs, h2, h3]

/-- The kinds of an op's operands. -/
def ka (op : Int) : Nat := if 0 ≤ op ∧ op < 30 then (rowOf op.toNat).2.1 else 0
def kb (op : Int) : Nat := if 0 ≤ op ∧ op < 30 then (rowOf op.toNat).2.2.1 else 0
def knownB (op : Int) : Bool := decide (0 ≤ op) && decide (op < 30)

theorem known22_any (op : Int) (w : World) : Calls Tryd.prog 22 #[.int .i64 op] w fun e w' => e = .returned (.bool (knownB op)) ∧ w = w' := by
  by_cases h0 : 0 ≤ op
  · by_cases h1 : op < 30
    · have hk : knownB op = true := by simp [knownB, h0, h1]
      have HK := Lib.hid hk
      clear hk
      go_enter Tryd.func22, Tryd.ntmps22
      go_wp2
      go_ret
      exact ⟨by rw [HK.out]; rfl, rfl⟩
    · have hk : knownB op = false := by simp [knownB, h1]
      have HK := Lib.hid hk
      clear hk
      have h2 : decide (op < 30) = false := by simp; omega
      clear h1
      go_enter Tryd.func22, Tryd.ntmps22
      go_wp2
      go_ret
      exact ⟨by rw [HK.out]; rfl, rfl⟩
  · have hk : knownB op = false := by simp [knownB, h0]
    have HK := Lib.hid hk
    clear hk
    have h2 : decide (0 ≤ op) = false := by simp; omega
    clear h0
    go_enter Tryd.func22, Tryd.ntmps22
    go_wp2
    go_ret
    exact ⟨by rw [HK.out]; rfl, rfl⟩

set_option maxHeartbeats 1000000 in
theorem Kinds21_any (op : Int) (w : World) : Calls Tryd.prog 21 #[.int .i64 op] w fun e w' => e = .returned (.tuple #[.int .i64 (ka op), .int .i64 (kb op)]) ∧ Below w.heap.size w w' := by
  have HN := Lib.hid (known22_any op)
  by_cases h : 0 ≤ op ∧ op < 30
  · obtain ⟨k, rfl⟩ := Int.eq_ofNat_of_zero_le h.1
    have hk : k < 30 := by omega
    have ha : ka (k : Int) = (rowOf k).2.1 := by unfold ka; rw [if_pos h]; rfl
    have hb : kb (k : Int) = (rowOf k).2.2.1 := by unfold kb; rw [if_pos h]; rfl
    have hB : knownB (k : Int) = true := by unfold knownB; rw [decide_eq_true h.1, decide_eq_true h.2]; rfl
    rw [hB] at HN
    have HI := Lib.hid (index93 k hk)
    have HA := Lib.hid ha
    have HB := Lib.hid hb
    obtain ⟨r, hr⟩ : ∃ r, rowOf k = r := ⟨_, rfl⟩
    have hv : rowV k = .agg #[.string ⟨r.1.toArray⟩, .int .i64 r.2.1, .int .i64 r.2.2.1, .string ⟨r.2.2.2.1.toArray⟩, .string ⟨r.2.2.2.2.1.toArray⟩, .bool r.2.2.2.2.2] := by rw [← hr]; rfl
    rw [hr] at ha hb
    have HI2 : Hid (∀ w, (Instr.index 93 (.agg rowsC) (.int .i64 k)).run Tryd.prog w = .ok (.agg #[.string ⟨r.1.toArray⟩, .int .i64 r.2.1, .int .i64 r.2.2.1, .string ⟨r.2.2.2.1.toArray⟩, .string ⟨r.2.2.2.2.1.toArray⟩, .bool r.2.2.2.2.2]) w) := Lib.hid (fun w => by rw [← hv]; exact HI.out w)
    have HA2 := Lib.hid ha
    have HB2 := Lib.hid hb
    clear h hk ha hb hB HI HA HB hr hv
    generalize hR : Value.agg rowsC = R at *
    have hx := HI2.out
    have HR := Lib.hid hR
    clear hR
    go_enter Tryd.func21, Tryd.ntmps21
    go_wp2_with (first
      | (go_at_call 22; (with_reducible refine (HN.out _).mono ?_); rintro e w' ⟨rfl, rfl⟩)
      | (go_at_call 41; (with_reducible refine (rows41_any _).mono ?_); rintro e w1 ⟨rfl, hb1⟩; rw [HR.out]; have HB1 := Lib.hid hb1; clear hb1))
    go_quiet (fail)
    go_wp2
    go_ret2
    refine ⟨by rw [HA2.out, HB2.out]; rfl, ?_⟩
    exact pw_below_drewN ((below_step HB1.out (Below.alloc (Below.refl _ _) (Nat.le_refl _) _))) _
  · have hB : knownB op = false := by simp only [knownB, Bool.and_eq_false_iff, decide_eq_false_iff_not]; omega
    rw [hB] at HN
    have HA2 : Hid (ka op = 0) := Lib.hid (by simp only [ka, if_neg h])
    have HB2 : Hid (kb op = 0) := Lib.hid (by simp only [kb, if_neg h])
    clear h hB
    go_enter Tryd.func21, Tryd.ntmps21
    go_wp2_with (go_at_call 22; (with_reducible refine (HN.out _).mono ?_); rintro e w' ⟨rfl, rfl⟩)
    go_ret2
    exact ⟨by rw [HA2.out, HB2.out]; rfl, Below.refl _ _⟩

/-- The bounds of a kind of operand. -/
def lo (k : Nat) : Int := if k = 1 then -9223372036854775808 else if k = 2 ∨ k = 3 then 1 else 0
def hi (k : Nat) : Int := ([0, 9223372036854775807, 4, 3, 63, 63, 15, 63, 13, 8, 511] : List Int).getD k 0
/-- The function that names what a kind of operand has. -/
def nameF (k : Nat) : Nat := if k = 8 then 45 else if k = 9 then 46 else 44
def isNamed (k : Nat) : Bool := k == 2 || k == 3 || k == 8 || k == 9
/-- A kind's two functions. -/
def FunsAt (W : World) (k : Nat) (sh rd : Value) : Prop :=
  if isNamed k then ∃ b, sh = .func (.func 64) #[] #[.pointer (some ⟨b + 2, 0, none⟩)] ∧ rd = .func (.func 63) #[] #[.pointer (some ⟨b, 0, none⟩), .pointer (some ⟨b + 1, 0, none⟩), .pointer (some ⟨b + 2, 0, none⟩)] ∧
    W.heap[b]? = some (.cells #[.int .i64 (lo k)] 3 (0, 0)) ∧ W.heap[b + 1]? = some (.cells #[.int .i64 (hi k + 1)] 3 (0, 0)) ∧ W.heap[b + 2]? = some (.cells #[.func (.func (nameF k)) #[] #[]] 60 (0, 0))
  else sh = .func (.func 61) #[] #[] ∧ rd = .func (.func 59) #[] #[]
def kindV (k : Nat) (sh rd : Value) : Value := .agg #[.int .i64 (lo k), .int .i64 (hi k), sh, rd]

/-- A whole value into a block that lies there. -/
theorem store_row {P : Program} {ops : Array Oper} {rest : List Oper} {o : Oper} {a : Act} {w : World} {Q : Exit → Act → World → Prop} (t : TypeId) (p x : Operand) (g : Nat) (c : Array Value) (l : List Value) (u : Value) (hN : o.dst = none) (hgd : o.guard = none) (ho : o.op = .store t p x)
    (haddr : a.eval p = .pointer (some ⟨g, 0, none⟩)) (hx : a.eval x = u) (hu : u.cells = l.toArray) (hg : w.heap[g]? = some (.cells c t (0, 0))) (hi : (P.info? t).map (·.size) = some l.length) (hc : c.size = l.length) (h1 : l.all (·.oneCell') = true)
    (h : ∀ W, Fr (fun i => i = g) w W → W.heap[g]? = some (.cells l.toArray t (0, 0)) → W.heap.size = w.heap.size → wpList P ops Q rest a W) : wpList P ops Q (o :: rest) a w := by
  refine wpList_plain hgd fun K hK => ?_
  have hlt : g < w.heap.size := (Array.getElem?_eq_some_iff.1 hg).1
  have hrun : (Instr.storeAt t (.pointer (some ⟨g, 0, none⟩)) u).run P w = .ok () (w.setRow g l.toArray) := by
    obtain ⟨i, hi', hsz⟩ := Option.map_eq_some_iff.1 hi
    have hst := run_storeCells_at (P := P) g 0 t l 0 c w hg (by omega) (fun v hv => List.all_eq_true.1 h1 v hv)
    have e : (c.toList.take (0 + 0) ++ l ++ c.toList.drop (0 + 0 + l.length)).toArray = l.toArray := by
      rw [List.take_zero, List.nil_append, List.drop_eq_nil_of_le (by simp; omega)]
      simp
    rw [e] at hst
    simp [Instr.storeAt, Instr.sureAddr, storeVar, sizeOf, typeInfo, hi', hsz, hu, hst]
  unfold Oper.wp execOp
  simp only [ho, haddr, hx, Sem.run_bind, Sem.run_pure, Result.andThen_ok, hrun]
  show K (a.put o.dst undef) _
  rw [hN]
  exact hK _ _ (h _ ⟨rfl, rfl, rfl, by simp, fun i _ hne => setRow_other w g i _ hne⟩ (setRow_heap w g _ _ t _ hg) (by simp))

theorem store_newL {P : Program} {ops : Array Oper} {rest : List Oper} {o : Oper} {a : Act} {w : World} {Q : Exit → Act → World → Prop} (t : TypeId) (p x : Operand) (c : Array Value) (l : List Value) (u : Value) (hN : o.dst = none) (hgd : o.guard = none) (ho : o.op = .store t p x)
    (haddr : a.eval p = .pointer (some ⟨w.heap.size, 0, none⟩)) (hx : a.eval x = u) (hu : u.cells = l.toArray) (hi : (P.info? t).map (·.size) = some l.length) (hc : c.size = l.length) (h1 : l.all (·.oneCell') = true)
    (h : wpList P ops Q rest a (w.alloc (.cells l.toArray t))) : wpList P ops Q (o :: rest) a (w.alloc (.cells c t)) :=
  store_new t p x c l.toArray u hN hgd ho haddr hx hu (by simpa using hi) (by simpa using hc) (by rw [List.all_toArray]; exact h1) h
structure Wrapped (p : Prop) : Prop where
  h : p
theorem blk_three (w : World) (o0 o1 o2 o3 : Obj) : ((((w.alloc o0).alloc o1).alloc o2).alloc o3).heap[w.heap.size]? = some o0 ∧ ((((w.alloc o0).alloc o1).alloc o2).alloc o3).heap[w.heap.size + 1]? = some o1 ∧ ((((w.alloc o0).alloc o1).alloc o2).alloc o3).heap[w.heap.size + 2]? = some o2 := by
  have e1 := World.alloc_heap_new (w.alloc o0) o1
  have e2 := World.alloc_heap_new ((w.alloc o0).alloc o1) o2
  rw [World.size_alloc] at e1
  rw [World.size_alloc, World.size_alloc] at e2
  refine ⟨?_, ?_, ?_⟩
  · rw [Below.heap_alloc _ _ _ (by simp; try omega), Below.heap_alloc _ _ _ (by simp; try omega), Below.heap_alloc _ _ _ (by simp)]; exact World.alloc_heap_new w o0
  · rw [Below.heap_alloc _ _ _ (by simp; try omega), Below.heap_alloc _ _ _ (by simp)]; exact e1
  · rw [Below.heap_alloc _ _ _ (by simp; try omega)]; exact e2
theorem number42_any (a b : Int) (w : World) : Calls Tryd.prog 42 #[.int .i64 a, .int .i64 b] w fun e w' => e = .returned (.agg #[.int .i64 a, .int .i64 b, .func (.func 61) #[] #[], .func (.func 59) #[] #[]]) ∧ Below w.heap.size w w' := by
  go_enter Tryd.func42, Tryd.ntmps42
  go_wp2
  exact bodyPost_ret (results_cell_row rfl _ _ w.heap.size 57 _ (0, 0) _ rfl (World.alloc_heap_new w _) Tryd.underlying57 rfl (by kernel_rfl)) rfl ⟨rfl, (Below.refl _ _).alloc (Nat.le_refl _) _⟩
theorem named43_any (a b : Int) (f : Nat) (w : World) (h0 : -1000 ≤ b) (h1 : b ≤ 1000) : Calls Tryd.prog 43 #[.int .i64 a, .int .i64 b, .func (.func f) #[] #[]] w fun e w' =>
    e = .returned (.agg #[.int .i64 a, .int .i64 (b - 1), .func (.func 64) #[] #[.pointer (some ⟨w.heap.size + 2, 0, none⟩)], .func (.func 63) #[] #[.pointer (some ⟨w.heap.size, 0, none⟩), .pointer (some ⟨w.heap.size + 1, 0, none⟩), .pointer (some ⟨w.heap.size + 2, 0, none⟩)]]) ∧ Below w.heap.size w w' ∧
    w'.heap[w.heap.size]? = some (.cells #[.int .i64 a] 3 (0, 0)) ∧ w'.heap[w.heap.size + 1]? = some (.cells #[.int .i64 b] 3 (0, 0)) ∧ w'.heap[w.heap.size + 2]? = some (.cells #[.func (.func f) #[] #[]] 60 (0, 0)) := by
  go_enter Tryd.func43, Tryd.ntmps43
  go_wp2
  refine bodyPost_ret (results_cell_row rfl _ _ (w.heap.size + 1 + 1 + 1) 57 _ (0, 0) _ rfl ?_ Tryd.underlying57 rfl (by kernel_rfl)) rfl ⟨rfl, ?_, ?_, ?_, ?_⟩
  · have := World.alloc_heap_new (((w.alloc (.cells #[.int .i64 a] 3)).alloc (.cells #[.int .i64 b] 3)).alloc (.cells #[.func (.func f) #[] #[]] 60)) (.cells #[.int .i64 a, .int .i64 (b - 1), .func (.func 64) #[] #[.pointer (some ⟨w.heap.size + 2, 0, none⟩)], .func (.func 63) #[] #[.pointer (some ⟨w.heap.size, 0, none⟩), .pointer (some ⟨w.heap.size + 1, 0, none⟩), .pointer (some ⟨w.heap.size + 2, 0, none⟩)]] 57)
    simpa using this
  · exact below_alloc (below_alloc (below_alloc (below_alloc (Below.refl _ _) _) _) _) _
  · exact (blk_three w _ _ _ _).1
  · exact (blk_three w _ _ _ _).2.1
  · exact (blk_three w _ _ _ _).2.2
theorem in24_any (a b n : Int) (sh rd : Value) (w : World) : Calls Tryd.prog 24 #[.agg #[.int .i64 a, .int .i64 b, sh, rd], .int .i64 n] w fun e w' => e = .returned (.bool (decide (a ≤ n) && decide (n ≤ b))) ∧ Below w.heap.size w w' := by
  by_cases h : a ≤ n
  · by_cases h2 : n ≤ b
    · go_enter Tryd.func24, Tryd.ntmps24
      go_wp2
      go_ret
      exact ⟨by simp [h, h2], (Below.refl _ _).alloc (Nat.le_refl _) _⟩
    · have h3 : decide (n ≤ b) = false := by simpa using h2
      go_enter Tryd.func24, Tryd.ntmps24
      go_wp2
      go_ret
      exact ⟨by simp, (Below.refl _ _).alloc (Nat.le_refl _) _⟩
  · have h3 : decide (a ≤ n) = false := by simpa using h
    go_enter Tryd.func24, Tryd.ntmps24
    go_wp2
    go_ret
    exact ⟨by simp, (Below.refl _ _).alloc (Nat.le_refl _) _⟩

theorem named_funs {W : World} {k b : Nat} (hk : isNamed k = true) (h0 : W.heap[b]? = some (.cells #[.int .i64 (lo k)] 3 (0, 0))) (h1 : W.heap[b + 1]? = some (.cells #[.int .i64 (hi k + 1)] 3 (0, 0))) (h2 : W.heap[b + 2]? = some (.cells #[.func (.func (nameF k)) #[] #[]] 60 (0, 0))) :
    FunsAt W k (.func (.func 64) #[] #[.pointer (some ⟨b + 2, 0, none⟩)]) (.func (.func 63) #[] #[.pointer (some ⟨b, 0, none⟩), .pointer (some ⟨b + 1, 0, none⟩), .pointer (some ⟨b + 2, 0, none⟩)]) := by
  unfold FunsAt
  rw [if_pos hk]
  exact ⟨b, rfl, rfl, h0, h1, h2⟩
theorem number_funs {W : World} {k : Nat} (hk : isNamed k = false) : FunsAt W k (.func (.func 61) #[] #[]) (.func (.func 59) #[] #[]) := by
  unfold FunsAt
  rw [if_neg (by rw [hk]; decide)]
  exact ⟨rfl, rfl⟩
theorem FunsAt.below {W W' : World} {k : Nat} {sh rd : Value} (h : FunsAt W k sh rd) (hb : Below W.heap.size W W') : FunsAt W' k sh rd := by
  by_cases hk : isNamed k = true
  all_goals
    unfold FunsAt at h ⊢
    first | rw [if_pos hk] at h ⊢ | rw [if_neg hk] at h ⊢
  · obtain ⟨b, h1, h2, h3, h4, h5⟩ := h
    have hf : Fr (fun _ => False) W W' := Fr.of_below hb
    exact ⟨b, h1, h2, hf.at h3 id, hf.at h4 id, hf.at h5 id⟩
  · exact h

theorem FunsAt.fr57 {X Y : World} {k g : Nat} {sh rd : Value} {c : Array Value} (h : FunsAt X k sh rd) (hg : X.heap[g]? = some (.cells c 57 (0, 0))) (hf : Fr (fun i => i = g) X Y) : FunsAt Y k sh rd := by
  have ne : ∀ {b : Nat} {d : Array Value} {t : TypeId}, X.heap[b]? = some (.cells d t (0, 0)) → t ≠ 57 → b ≠ g := fun {b d t} h1 h2 e => by
    subst e
    rw [hg] at h1
    injection h1 with h1
    injection h1 with _ h1
    exact h2 h1.symm
  by_cases hk : isNamed k = true
  all_goals
    unfold FunsAt at h ⊢
    first | rw [if_pos hk] at h ⊢ | rw [if_neg hk] at h ⊢
  · obtain ⟨b, h1, h2, h3, h4, h5⟩ := h
    exact ⟨b, h1, h2, hf.at h3 (ne h3 (by decide)), hf.at h4 (ne h4 (by decide)), hf.at h5 (ne h5 (by decide))⟩
  · exact h
theorem named_2 (w : World) : Calls Tryd.prog 43 #[.int .i64 1, .int .i64 5, .func (.func 44) #[] #[]] w fun e w' => ∃ b : Nat, e = .returned (.agg #[.int .i64 1, .int .i64 4, .func (.func 64) #[] #[.pointer (some ⟨b + 2, 0, none⟩)], .func (.func 63) #[] #[.pointer (some ⟨b, 0, none⟩), .pointer (some ⟨b + 1, 0, none⟩), .pointer (some ⟨b + 2, 0, none⟩)]]) ∧ FunsAt w' 2 (.func (.func 64) #[] #[.pointer (some ⟨b + 2, 0, none⟩)]) (.func (.func 63) #[] #[.pointer (some ⟨b, 0, none⟩), .pointer (some ⟨b + 1, 0, none⟩), .pointer (some ⟨b + 2, 0, none⟩)]) ∧ Below w.heap.size w w' :=
  (named43_any 1 5 44 w (by decide) (by decide)).mono fun _ _ ⟨h1, h2, h3, h4, h5⟩ => ⟨_, h1, named_funs rfl h3 h4 h5, h2⟩
theorem named_3 (w : World) : Calls Tryd.prog 43 #[.int .i64 1, .int .i64 4, .func (.func 44) #[] #[]] w fun e w' => ∃ b : Nat, e = .returned (.agg #[.int .i64 1, .int .i64 3, .func (.func 64) #[] #[.pointer (some ⟨b + 2, 0, none⟩)], .func (.func 63) #[] #[.pointer (some ⟨b, 0, none⟩), .pointer (some ⟨b + 1, 0, none⟩), .pointer (some ⟨b + 2, 0, none⟩)]]) ∧ FunsAt w' 3 (.func (.func 64) #[] #[.pointer (some ⟨b + 2, 0, none⟩)]) (.func (.func 63) #[] #[.pointer (some ⟨b, 0, none⟩), .pointer (some ⟨b + 1, 0, none⟩), .pointer (some ⟨b + 2, 0, none⟩)]) ∧ Below w.heap.size w w' :=
  (named43_any 1 4 44 w (by decide) (by decide)).mono fun _ _ ⟨h1, h2, h3, h4, h5⟩ => ⟨_, h1, named_funs rfl h3 h4 h5, h2⟩
theorem named_8 (w : World) : Calls Tryd.prog 43 #[.int .i64 0, .int .i64 14, .func (.func 45) #[] #[]] w fun e w' => ∃ b : Nat, e = .returned (.agg #[.int .i64 0, .int .i64 13, .func (.func 64) #[] #[.pointer (some ⟨b + 2, 0, none⟩)], .func (.func 63) #[] #[.pointer (some ⟨b, 0, none⟩), .pointer (some ⟨b + 1, 0, none⟩), .pointer (some ⟨b + 2, 0, none⟩)]]) ∧ FunsAt w' 8 (.func (.func 64) #[] #[.pointer (some ⟨b + 2, 0, none⟩)]) (.func (.func 63) #[] #[.pointer (some ⟨b, 0, none⟩), .pointer (some ⟨b + 1, 0, none⟩), .pointer (some ⟨b + 2, 0, none⟩)]) ∧ Below w.heap.size w w' :=
  (named43_any 0 14 45 w (by decide) (by decide)).mono fun _ _ ⟨h1, h2, h3, h4, h5⟩ => ⟨_, h1, named_funs rfl h3 h4 h5, h2⟩
theorem named_9 (w : World) : Calls Tryd.prog 43 #[.int .i64 0, .int .i64 9, .func (.func 46) #[] #[]] w fun e w' => ∃ b : Nat, e = .returned (.agg #[.int .i64 0, .int .i64 8, .func (.func 64) #[] #[.pointer (some ⟨b + 2, 0, none⟩)], .func (.func 63) #[] #[.pointer (some ⟨b, 0, none⟩), .pointer (some ⟨b + 1, 0, none⟩), .pointer (some ⟨b + 2, 0, none⟩)]]) ∧ FunsAt w' 9 (.func (.func 64) #[] #[.pointer (some ⟨b + 2, 0, none⟩)]) (.func (.func 63) #[] #[.pointer (some ⟨b, 0, none⟩), .pointer (some ⟨b + 1, 0, none⟩), .pointer (some ⟨b + 2, 0, none⟩)]) ∧ Below w.heap.size w w' :=
  (named43_any 0 9 46 w (by decide) (by decide)).mono fun _ _ ⟨h1, h2, h3, h4, h5⟩ => ⟨_, h1, named_funs rfl h3 h4 h5, h2⟩
end Go.Proofs.YtamagdnlicnefaaDoor
