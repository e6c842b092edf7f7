/- Opcode: Show. -/
import Derived.Lib.ItoaLen
import Derived.Test.YtamagdnlicnefaaGreatDoorKnOe
import Derived.Test.YtamagdnlicnefaaGreatDoorKnOf
import Derived.Test.YtamagdnlicnefaaGreatDoorKnQa
import Derived.Test.YtamagdnlicnefaaGreatDoorKnRg
namespace Go.Proofs.YtamagdnlicnefaaGreatDoor
open Go.RowKit Go.Shelf Go.Proofs.YtamagdnlicnefaaGreatDoorW.PrintWords Go.Proofs.YtamagdnlicnefaaGreatDoorW.PrintLast Go.Proofs.YtamagdnlicnefaaGreatDoorW.PrintMore
attribute [local go_sem] Oper.semAt_some wide_fn2 wide_depth2

theorem goesv_ {P : Program} {ops : Array Oper} {Q : Exit → Act → World → Prop} {oi : Oper} {N : Option Tmp} {a : Act} {w : World} {K : Act → World → Prop} {f : FuncId} {fn : Func} {c : Operand} {avs : Array Operand} {ts : Array TypeId} (hf : P.funcs[f]? = some fn) (hname : (fn.name == "runtime.NumGoroutine") = false) (hb : fn.body.isSome = true) (args caps all : Array Value) (hall : args ++ caps = all)
    (hw : Region.wanted oi (yielded ops a.tmps) = true) (hN : oi.dst = N) (hop : oi.op = .call { callee := .value c, args := avs, argTypes := ts }) (hc : a.eval c = .func (.func f) #[] caps) (hargs : avs.map a.eval = args)
    (h : Calls P f all w fun e w' => ∃ v, e = .returned v ∧ K (a.put N v) w') : if Region.wanted oi (yielded ops a.tmps) = true then Oper.wp P oi a w K Q else K (a.put N undef) w := by
  subst hall
  refine call_ f (args ++ caps) hw hN ?_ h
  have he := enters_ hf hname hb (args ++ caps) w
  unfold execOp
  simp [hop, resolve, Deferred.ofValue, invoke, hc, hargs, he]
theorem field57_2 (a b : Int) (f g : Fn) (x y c d : Array _) (w : World) : (Instr.field 68 (.agg #[.int .i64 a, .int .i64 b, .func f x c, .func g y d]) 2).run Tryz.prog w = .ok (.func f x c) w := by
  simp [Instr.field, run_underlying Tryz.underlying68, part, isAgg, asAgg, go_sem]
theorem FunsAt.named {W : World} {k : Nat} {sh rd : Value} (h : FunsAt W k sh rd) (hk : isNamed k = true) : ∃ b, sh = .func (.func 89) #[] #[.pointer (some ⟨b + 2, 0, none⟩)] ∧ rd = .func (.func 88) #[] #[.pointer (some ⟨b, 0, none⟩), .pointer (some ⟨b + 1, 0, none⟩), .pointer (some ⟨b + 2, 0, none⟩)] ∧ Hid (W.heap[b + 2]? = some (.cells #[.func (.func (nameF k)) #[] #[]] 45 (0, 0))) := by
  unfold FunsAt at h
  rw [if_pos hk] at h
  obtain ⟨b, h1, h2, h3, h4, h5⟩ := h
  exact ⟨b, h1, h2, Lib.hid h5⟩
theorem FunsAt.number {W : World} {k : Nat} {sh rd : Value} (h : FunsAt W k sh rd) (hk : isNamed k = false) : sh = .func (.func 86) #[] #[] ∧ rd = .func (.func 84) #[] #[] := by
  unfold FunsAt at h
  rw [if_neg (by rw [hk]; decide)] at h
  exact h
theorem show61_at (k : Nat) (n : Int) (w : World) (hk : isNamed k = false) (hn : inB k n = true) (h10 : k ≤ 10) (hT : Tabs w) : Calls Tryz.prog 86 #[.int .i64 n] w fun e w' => e = .returned (.string ⟨(showK k n).toArray⟩) ∧ Below w.heap.size w w' := by
  have e : showK k n = Lib.itoa n := by unfold showK; rw [if_neg (by rw [hk]; decide)]
  rw [e]
  unfold inB at hn
  simp only [Bool.and_eq_true, decide_eq_true_eq] at hn
  have h1 := lo_ge k
  have h2 := hi_le k h10
  exact show61_any n w (by omega) (by omega) hT
theorem showK_le (k : Nat) (n : Int) (hn : inB k n = true) (h10 : k ≤ 10) : (showK k n).length ≤ 21 := by
  unfold inB at hn
  simp only [Bool.and_eq_true, decide_eq_true_eq] at hn
  have h1 := lo_ge k
  have h2 := hi_le k h10
  have key : ∀ (s : List UInt8) (m : Nat) (j : Nat), (Lib.fields s).all (fun l => decide (l.length ≤ 21)) = true → ((Lib.fields s).getD j []).length ≤ 21 := by
    intro s m j h
    rcases Nat.lt_or_ge j (Lib.fields s).length with hj | hj
    · have e : (Lib.fields s).getD j [] = (Lib.fields s)[j] := by simp [List.getD, hj]
      rw [e]
      exact of_decide_eq_true (List.all_eq_true.1 h _ (List.getElem_mem hj))
    · have e : (Lib.fields s).getD j [] = [] := by simp [List.getD, hj]
      rw [e]
      exact Nat.zero_le _
  unfold showK
  split
  · split
    · exact key _ 0 _ (by decide +kernel)
    · split
      · exact key _ 0 _ (by decide +kernel)
      · unfold letterL
        split
        · decide
        · split
          · decide
          · split <;> decide
  · exact Lib.itoa_length_le n (by omega) (by omega)
def flatS (a b : Int) (xs : List (Nat × Nat)) : List UInt8 := (xs.map fun x => 32 :: showK x.1 (valAt a b x.2)).flatten
def showX (op a b : Int) : List UInt8 := nameL op ++ flatS a b (opsL (ka op) (kb op))
theorem flatS_snoc (a b : Int) (pre : List (Nat × Nat)) (x : Nat × Nat) : flatS a b (pre ++ [x]) = flatS a b pre ++ (32 :: showK x.1 (valAt a b x.2)) := by simp [flatS]
theorem nameL_le (op : Int) : (nameL op).length ≤ 10 := by
  unfold nameL
  split
  · rename_i h
    obtain ⟨n, rfl⟩ := Int.eq_ofNat_of_zero_le h.1
    have : ∀ k : Fin 30, (rowOf k.val).1.length ≤ 10 := by decide +kernel
    exact this ⟨n, by omega⟩
  · exact Nat.zero_le _
theorem ok_mem {op a b : Int} (hok : okB op a b = true) {kk o : Nat} (h : (kk, o) ∈ opsL (ka op) (kb op)) : kk ≤ 10 ∧ inB kk (valAt a b o) = true ∧ (o = 1 ∨ o = 2) := by
  unfold okB at hok
  simp only [Bool.and_eq_true] at hok
  rcases opsL_mem h with ⟨h, _⟩ | ⟨h, _⟩
  · injection h with h1 h2
    subst h1; subst h2
    exact ⟨ka_le _, hok.2.1, .inl rfl⟩
  · injection h with h1 h2
    subst h1; subst h2
    exact ⟨kb_le _, hok.2.2, .inr rfl⟩
theorem flatS_le {op a b : Int} (hok : okB op a b = true) (pre : List (Nat × Nat)) (h : pre <+: opsL (ka op) (kb op)) : (flatS a b pre).length ≤ 44 := by
  have hl : pre.length ≤ 2 := by
    have h0 := h.length_le
    unfold opsL at h0
    rw [List.length_append] at h0
    have : ∀ k o, (if k = 0 then [] else [(k, o)] : List (Nat × Nat)).length ≤ 1 := by intro k o; split <;> simp
    have h1 := this (ka op) 1
    have h2 := this (kb op) 2
    omega
  have key : ∀ l : List (Nat × Nat), (∀ x ∈ l, x ∈ opsL (ka op) (kb op)) → (flatS a b l).length ≤ 22 * l.length := by
    intro l
    induction l with
    | nil => intro _; simp [flatS]
    | cons x l ih =>
      intro hm
      have h1 := ok_mem hok (kk := x.1) (o := x.2) (hm x (List.mem_cons_self ..))
      have h2 := showK_le x.1 (valAt a b x.2) h1.2.1 h1.1
      have h3 := ih (fun y hy => hm y (List.mem_cons_of_mem _ hy))
      simp only [flatS, List.map_cons, List.flatten_cons, List.length_append, List.length_cons] at h3 ⊢
      omega
  have := key pre (fun x hx => h.subset hx)
  omega
def ShowI (w : World) (op a b : Int) (g : Nat) (pre : List (Nat × Nat)) (W : World) : Prop :=
  W.heap[g]? = some (.cells #[.string ⟨(nameL op ++ flatS a b pre).toArray⟩] 9 (0, 0)) ∧ XAt W w.heap.size op a b ∧ Below w.heap.size w W
theorem Show9_bad (op a b : Int) (w : World) (h : okB op a b = false) : Calls Tryz.prog 24 #[.agg #[.int .i64 op, .int .i64 a, .int .i64 b]] w fun e w' => e = .returned (.string ⟨#[]⟩) ∧ Below w.heap.size w w' := by
  have HC : Hid (∀ w, Calls Tryz.prog 8 #[.agg #[.int .i64 op, .int .i64 a, .int .i64 b]] w fun e w' => e = .returned (.int .i64 40) ∧ Below w.heap.size w w') := Lib.hid (fun w => by have := Check8_any op a b w; rw [h] at this; exact this)
  clear h
  go_enter Tryz.func24, Tryz.ntmps24
  go_wp2_with (go_at_call 8; (with_reducible refine (HC.out _).mono ?_); rintro e w1 ⟨rfl, hb1⟩; have HB1 := Lib.hid hb1; clear hb1)
  go_ret
  exact ⟨rfl, below_step (below_alloc (Below.refl _ _) _) HB1.out⟩
set_option maxRecDepth 100000 in
set_option maxHeartbeats 8000000 in
theorem Show9_ok (op a b : Int) (w : World) (h : okB op a b = true) (hT : Tabs w) : Calls Tryz.prog 24 #[.agg #[.int .i64 op, .int .i64 a, .int .i64 b]] w fun e w' => e = .returned (.string ⟨(showX op a b).toArray⟩) ∧ Below w.heap.size w w' := by
  have HC : Hid (∀ w, Calls Tryz.prog 8 #[.agg #[.int .i64 op, .int .i64 a, .int .i64 b]] w fun e w' => e = .returned (.int .i64 0) ∧ Below w.heap.size w w') := Lib.hid (fun w => by have := Check8_any op a b w; rw [h] at this; exact this)
  have HNM := Lib.hid (Name25_any op)
  have HOK := Lib.hid h
  have HT0 := Lib.hid hT
  clear h hT
  have hw0 : Below w.heap.size w (w.alloc (.cells #[.int .i64 op, .int .i64 a, .int .i64 b] 23)) := below_alloc (Below.refl _ _) _
  have hx0 := World.alloc_heap_new w (.cells #[.int .i64 op, .int .i64 a, .int .i64 b] 23)
  have HW0 := Lib.hid hw0
  have HX0 := Lib.hid hx0
  clear hw0 hx0
  refine (callsIn_wide (n := 9)).1 ?_
  refine callsIn_of_wp_marks Tryz.func24 rfl trivial ?_ rfl
  simp only [Tryz.ntmps24, List.size_toArray, List.length_cons, List.length_nil, Nat.reduceAdd, Nat.reduceSub, Array.replicate_succ, Array.replicate_zero, List.push_toArray, List.append_toArray, List.nil_append, List.cons_append]
  gi_wp2_with (first
    | (gi_at_call 8; (with_reducible refine (callsIn_wide.2 (HC.out _)).mono ?_); rintro e w1 ⟨rfl, hb1⟩; have hx1 := (hb1.block _ (blk_lt HX0.out)).trans HX0.out; have hl1 := below_step HW0.out hb1; have hc1 := blk_cell hx1 0; simp only [List.getElem?_toArray, List.getElem?_cons_zero] at hc1; have HX1 := Lib.hid hx1; have HL1 := Lib.hid hl1; clear hx1 hl1 hb1)
    | (gi_at_call 21; (with_reducible refine (callsIn_wide.2 (HNM.out _)).mono ?_); rintro e w2 ⟨rfl, hb2⟩; have hx2 := (hb2.block _ (blk_lt HX1.out)).trans HX1.out; have HL2 := Lib.hid (below_step HL1.out hb2); have HX2 := Lib.hid hx2; have HS2 := Lib.hid hb2.size; have hlt2 := blk_lt hx2; clear hx2 hb2 hc1)
    | (gi_at_call 44; fail))
  have hg3 := World.alloc_heap_new w2 (.cells #[.string ⟨(nameL op).toArray⟩] 9)
  have hb3 : Below w2.heap.size w2 (w2.alloc (.cells #[.string ⟨(nameL op).toArray⟩] 9)) := below_alloc (Below.refl _ _) _
  have hx3 := (hb3.block _ hlt2).trans HX2.out
  have HL3 := Lib.hid (below_step HL2.out hb3)
  generalize w2.alloc (.cells #[.string ⟨(nameL op).toArray⟩] 9) = w3 at *
  refine (callsIn_wide.2 (operands26_any w.heap.size op a b w3 hx3)).mono ?_
  rintro e w4 ⟨bb, bs, rfl, hbo4, hbb, hbs, hb4⟩
  have hgs : w2.heap.size < w3.heap.size := blk_lt hg3
  have hin : ShowI w op a b w2.heap.size [] w4 := by
    refine ⟨?_, (hb4.block _ (blk_lt hx3)).trans hx3, below_step HL3.out hb4⟩
    rw [show nameL op ++ flatS a b [] = nameL op from by simp [flatS]]
    exact (hb4.block _ hgs).trans hg3
  have hbb4 := blk_lt hbo4.1
  have hbs4 := blk_lt hbo4.2
  have h34 := hb4.size
  have HIN := Lib.hid hin
  have HBO := Lib.hid hbo4
  clear hin hbo4 hb4 hg3 hb3 hx3 HL3 HL2 HX2 HS2 HC HNM HW0 HX0 HX1 HL1
  gi_wp2
  refine range_ga rfl (by omega) (gf := 64) (lb := #[.pointer (some ⟨bb, 0, none⟩)]) rfl trivial (enters_of Tryz.func64 (by kernel_rfl) rfl)
    (operands47_seq (9 - 1) bb bs w.heap.size (ka op) (kb op) (w4.heap.size + 2) w4 HBO.out) (by omega) (by omega) (fun _ => rfl)
    (ShowI w op a b w2.heap.size) (fun _ _ _ => False) ?hI (fun _ _ _ _ h _ => h) HIN.out (fun _ _ _ _ h _ => h)
    (fun x a' W => ∃ bo, w4.heap.size + 2 ≤ bo ∧ W.heap[bo]? = some (.cells #[.int .i64 x.1, .pointer (some ⟨w.heap.size, x.2, none⟩)] 81 (0, 0)) ∧
      a' = { tmps := #[.agg #[.int .i64 op, .int .i64 a, .int .i64 b], .pointer (some ⟨w.heap.size, 0, none⟩), .string ⟨#[]⟩, .pointer (some ⟨w2.heap.size, 0, none⟩), .pointer (some ⟨bo, 0, none⟩), .agg #[.int .i64 op, .int .i64 a, .int .i64 b], .int .i64 0, .bool false, .pointer (some ⟨w.heap.size, 0, none⟩), .int .i64 op, .string ⟨(nameL op).toArray⟩, .func (.func 64) #[] #[.pointer (some ⟨bb, 0, none⟩)], .agg #[.int .i64 x.1, .pointer (some ⟨w.heap.size, x.2, none⟩)], undef, undef, undef, undef, undef, undef, undef, undef, undef, undef, undef, undef, undef], defers := [] }) ?hAx ?hassign ?hbody ?hdone ?hstop
  case hI =>
    rintro pre X Y ⟨h1, h3, h4⟩ hf
    have key : ∀ i, Wd (fun i => i = bb ∨ i = bs) w4.heap.size i → w2.heap.size < i := fun i hi => by
      rcases hi with (h | h) | h | h <;> omega
    refine ⟨hf.at h1 (fun h => by have := key _ h; omega), hf.at h3 (fun h => by have := key _ h; omega), h4.trans (hf.below h4.size (fun i hi h => by have := key _ h; omega))⟩
  case hAx =>
    rintro x a' X Y ⟨bo, h1, h2, h3⟩ hf
    exact ⟨bo, h1, hf.at h2 (fun h => by omega), h3⟩
  case hassign =>
    rintro l pre ⟨kk, o⟩ W K hW _ hK
    unfold opEnc
    gi_wp2
    exact hK _ _ (below_alloc (Below.refl _ _) _) ⟨_, hW, World.alloc_heap_new W _, rfl⟩
  case hbody =>
    rintro l pre ⟨kk, o⟩ a' W hW ⟨hG, hX, hB⟩ hadm ⟨bo, hbo, hco, rfl⟩
    simp only at hco hadm ⊢
    have hmem := ok_mem HOK.out (hadm.subset (List.mem_append_right _ (List.mem_singleton.2 rfl)))
    obtain ⟨hk10, hin, ho⟩ := hmem
    have hcn : W.cell? ⟨w.heap.size, o, none⟩ = some (.int .i64 (valAt a b o)) := by
      rcases ho with rfl | rfl
      · exact blk_cell hX 1
      · exact blk_cell hX 2
    have HFS : Hid (nameL op ++ flatS a b (pre ++ [(kk, o)]) = nameL op ++ flatS a b pre ++ (32 :: showK kk (valAt a b o))) := Lib.hid (by rw [flatS_snoc, List.append_assoc])
    have hl1 : (nameL op ++ flatS a b pre).length ≤ 60 := by
      have h1 := nameL_le op
      have h2 := flatS_le HOK.out pre ((List.prefix_append _ _).trans hadm)
      rw [List.length_append]
      omega
    generalize nameL op ++ flatS a b pre = cl at *
    generalize valAt a b o = n at *
    obtain ⟨cur, hcur⟩ : ∃ cur : ByteArray, (⟨cl.toArray⟩ : ByteArray) = cur := ⟨_, rfl⟩
    obtain ⟨sk, hsk⟩ : ∃ sk : ByteArray, (⟨(showK kk n).toArray⟩ : ByteArray) = sk := ⟨_, rfl⟩
    have hsl := showK_le kk n hin hk10
    have z1 : cur.size ≤ 60 := by rw [← hcur]; exact hl1
    have z2 : sk.size ≤ 21 := by rw [← hsk]; exact hsl
    have ka1 := fun W => run_string_add_sum (P := Tryz.prog) (w := W) ⟨#[32]⟩ sk (by show 1 + _ ≤ _; omega)
    have ka2 := fun W => run_string_add_sum (P := Tryz.prog) (w := W) cur (⟨#[32]⟩ ++ sk) (by rw [ByteArray.size_append]; show _ + (1 + _) ≤ _; omega)
    rw [hcur] at hG
    have HNEW : Hid (cur ++ (⟨#[32]⟩ ++ sk) = (⟨(nameL op ++ flatS a b (pre ++ [(kk, o)])).toArray⟩ : ByteArray)) := Lib.hid (by rw [HFS.out, ← hcur, ← hsk]; simp [ByteArray.ext_iff])
    have HOF := Lib.hid (of23_at kk hk10)
    have HI := Lib.hid hin
    have HT := Lib.hid (HT0.out.below hB)
    have HSK := Lib.hid hsk
    have HQ : Hid (∀ W2, Below W.heap.size W W2 → W2.cell? ⟨w2.heap.size, 0, none⟩ = some (.string cur) ∧ W2.cell? ⟨bo, 0, none⟩ = some (.int .i64 kk) ∧ W2.cell? ⟨bo, 1, none⟩ = some (.pointer (some ⟨w.heap.size, o, none⟩)) ∧ W2.cell? ⟨w.heap.size, o, none⟩ = some (.int .i64 n)) := Lib.hid (fun W2 hW2 => by
      have g1 := (hW2.block _ (blk_lt hG)).trans hG
      have g2 := (hW2.block _ (blk_lt hco)).trans hco
      exact ⟨blk_cell g1 0, blk_cell g2 0, blk_cell g2 1, pw_cell_below hW2 hcn⟩)
    have HFZ : Hid (∀ W2, Below W.heap.size W W2 → W2.frozen? ⟨w2.heap.size, 0, none⟩ = false) := Lib.hid (fun W2 hW2 => blk_frozen ((hW2.block _ (blk_lt hG)).trans hG) 0)
    have HW : Hid (Below W.heap.size W W.drew) := Lib.hid (below_drew (Below.refl _ _))
    have HEND : Hid (∀ W2, Below W.heap.size W W2 → Kept2 w4.heap.size W (W2.setCell ⟨w2.heap.size, 0, none⟩ (.string (cur ++ (⟨#[32]⟩ ++ sk)))) ∧ KpO (fun i => i = bb ∨ i = bs) W (W2.setCell ⟨w2.heap.size, 0, none⟩ (.string (cur ++ (⟨#[32]⟩ ++ sk)))) ∧ ShowI w op a b w2.heap.size (pre ++ [(kk, o)]) (W2.setCell ⟨w2.heap.size, 0, none⟩ (.string (cur ++ (⟨#[32]⟩ ++ sk))))) := Lib.hid (fun W2 hW2 => by
      have hF : Fr (fun i => i = w2.heap.size) W (W2.setCell ⟨w2.heap.size, 0, none⟩ (.string (cur ++ (⟨#[32]⟩ ++ sk)))) := (Fr.of_below hW2).set _ _ (fun _ => rfl)
      have g1 := (hW2.block _ (blk_lt hG)).trans hG
      have g2 := heap_setCell_same W2 w2.heap.size 0 _ 9 (.string (cur ++ (⟨#[32]⟩ ++ sk))) g1
      refine ⟨⟨hF.block _ (by omega) (by omega), hF.block _ (by omega) (by omega)⟩, KpO.of_fr hF (fun i hi h => by rcases hi with hi | hi <;> omega), ?_, hF.at hX (by omega), hB.trans (hF.below hB.size (fun i hi h => by omega))⟩
      rw [← HNEW.out]
      simpa using g2)
    clear hG hX hB hadm hco hcn HFS hl1 hsl HNEW HT0 HOK HIN HBO hin hcur hsk z1 z2
    generalize w2.heap.size = g at *
    have hf57 := field57_2
    gi_wp2
    by_cases hnm : isNamed kk = true
    · have HN := Lib.hid hnm
      clear hnm
      -- region 6: 13 operations: 0:load 1:fieldAddr 2:load 3:call 4:field 5:fieldAddr 6:load 7:nilCheck 8:load 9:call 10:binOp 11:binOp 12:store
      refine start_round (S := fun W' => W'.cell? ⟨g, 0, none⟩ = some (.string cur) ∧ W'.cell? ⟨bo, 0, none⟩ = some (.int .i64 kk) ∧ W'.cell? ⟨bo, 1, none⟩ = some (.pointer (some ⟨w.heap.size, o, none⟩)) ∧ W'.cell? ⟨w.heap.size, o, none⟩ = some (.int .i64 n)) (ds := [12]) #[false, false, false, false, false, false, false, false, false, false, false, false, false] (by kernel_rfl) (by kernel_rfl) (fun ⟨_, _, h⟩ => h) rfl rfl (HQ.out _ HW.out) (fun hHeld => ?_)
      refine pure_ (i := 1) (N := some 14) (v := ?_) (a' := ?_) #[false, true, false, false, false, false, false, false, false, false, false, false, false] rfl rfl (by kernel_rfl) (fun _ _ _ h => h) (Or.inl ⟨by rfl, ?_⟩) ?_ ?_
      rotate_left
      · intro w'
        go_simp
        with_reducible rfl
      rotate_left
      · simp only [Act.put, List.setIfInBounds_toArray, List.set_cons_zero, List.set_cons_succ]
        rfl
      refine pure_ (i := 5) (N := some 18) (v := ?_) (a' := ?_) #[false, true, false, false, false, true, false, false, false, false, false, false, false] rfl rfl (by kernel_rfl) (fun _ _ _ h => h) (Or.inl ⟨by rfl, ?_⟩) ?_ ?_
      rotate_left
      · intro w'
        go_simp
        with_reducible rfl
      rotate_left
      · simp only [Act.put, List.setIfInBounds_toArray, List.set_cons_zero, List.set_cons_succ]
        rfl
      refine take_ (i := 0) (N := some 13) (v := ?_) (a' := ?_) #[true, true, false, false, false, true, false, false, false, false, false, false, false] rfl rfl (by kernel_rfl) (fun _ _ _ h => h) (Or.inl ⟨by rfl, ?_⟩) hHeld ?_ ?_
      rotate_left
      · rintro w' ⟨e0, e1, e2, e3⟩
        go_simp
        with_reducible rfl
      rotate_left
      · simp only [Act.put, List.setIfInBounds_toArray, List.set_cons_zero, List.set_cons_succ]
        rfl
      refine take_ (i := 2) (N := some 15) (v := ?_) (a' := ?_) #[true, true, true, false, false, true, false, false, false, false, false, false, false] rfl rfl (by kernel_rfl) (fun _ _ _ h => h) (Or.inl ⟨by rfl, ?_⟩) hHeld ?_ ?_
      rotate_left
      · rintro w' ⟨e0, e1, e2, e3⟩
        go_simp
        with_reducible rfl
      rotate_left
      · simp only [Act.put, List.setIfInBounds_toArray, List.set_cons_zero, List.set_cons_succ]
        rfl
      refine take_ (i := 6) (N := some 19) (v := ?_) (a' := ?_) #[true, true, true, false, false, true, true, false, false, false, false, false, false] rfl rfl (by kernel_rfl) (fun _ _ _ h => h) (Or.inl ⟨by rfl, ?_⟩) hHeld ?_ ?_
      rotate_left
      · rintro w' ⟨e0, e1, e2, e3⟩
        go_simp
        with_reducible rfl
      rotate_left
      · simp only [Act.put, List.setIfInBounds_toArray, List.set_cons_zero, List.set_cons_succ]
        rfl
      refine pure_ (i := 7) (N := some 20) (v := ?_) (a' := ?_) #[true, true, true, false, false, true, true, true, false, false, false, false, false] rfl rfl (by kernel_rfl) (fun _ _ _ h => h) (Or.inl ⟨by rfl, ?_⟩) ?_ ?_
      rotate_left
      · intro w'
        go_simp
        with_reducible rfl
      rotate_left
      · simp only [Act.put, List.setIfInBounds_toArray, List.set_cons_zero, List.set_cons_succ]
        rfl
      refine take_ (i := 8) (N := some 21) (v := ?_) (a' := ?_) #[true, true, true, false, false, true, true, true, true, false, false, false, false] rfl rfl (by kernel_rfl) (fun _ _ _ h => h) (Or.inl ⟨by rfl, ?_⟩) hHeld ?_ ?_
      rotate_left
      · rintro w' ⟨e0, e1, e2, e3⟩
        go_simp
        with_reducible rfl
      rotate_left
      · simp only [Act.put, List.setIfInBounds_toArray, List.set_cons_zero, List.set_cons_succ]
        rfl
      refine one_ (i := 3) (N := some 16) #[true, true, true, true, false, true, true, true, true, false, false, false, false] rfl rfl (by kernel_rfl) (by decide) (fun K hK => ?_)
      refine goes_ Tryz.func38 (by kernel_rfl) rfl #[.int .i64 kk] (by rfl) rfl rfl (by simp only [List.map_toArray, List.map_cons, List.map_nil]; rfl) ?_
      with_reducible refine (HOF.out _).mono ?_
      rintro e w_ ⟨sh, rd, rfl, hfu, hb_⟩
      have HFU := Lib.hid hfu
      clear hfu
      refine ⟨_, rfl, ?_⟩
      have HW_ := Lib.hid (below_step HW.out hb_)
      clear HW
      have HW := HW_
      clear HW_ hb_
      obtain ⟨bk, rfl, rfl, HBK⟩ := FunsAt.named HFU.out HN.out
      clear HFU
      refine hK.out _ _ (HQ.out _ HW.out) (fun hHeld => ?_)
      clear hK K
      refine norm_ (a' := ?_) ?_ ?_
      rotate_left
      · show Act.put _ (some 16) _ = _
        simp only [Act.put, List.setIfInBounds_toArray, List.set_cons_zero, List.set_cons_succ]
        rfl
      refine pure_ (i := 4) (N := some 17) (v := ?_) (a' := ?_) #[true, true, true, true, true, true, true, true, true, false, false, false, false] rfl rfl (by kernel_rfl) (fun _ _ _ h => h) (Or.inl ⟨by rfl, ?_⟩) ?_ ?_
      rotate_left
      · intro w'
        go_simp
        with_reducible rfl
      rotate_left
      · simp only [Act.put, List.setIfInBounds_toArray, List.set_cons_zero, List.set_cons_succ]
        rfl
      refine one_ (i := 9) (N := some 22) #[true, true, true, true, true, true, true, true, true, true, false, false, false] rfl rfl (by kernel_rfl) (by decide) (fun K hK => ?_)
      refine goesv_ Tryz.func89 (by kernel_rfl) rfl #[.int .i64 n] #[.pointer (some ⟨bk + 2, 0, none⟩)] #[.int .i64 n, .pointer (some ⟨bk + 2, 0, none⟩)] rfl (by rfl) rfl rfl rfl (by simp only [List.map_toArray, List.map_cons, List.map_nil]; rfl) ?_
      with_reducible refine (show64_in kk n (bk + 2) _ HN.out HI.out (HT.out.below HW.out) HBK.out).mono ?_
      rintro e w_ ⟨rfl, hb_⟩
      rw [HSK.out]
      refine ⟨_, rfl, ?_⟩
      have HW_ := Lib.hid (below_step HW.out hb_)
      clear HW
      have HW := HW_
      clear HW_ hb_
      refine hK.out _ _ (HQ.out _ HW.out) (fun hHeld => ?_)
      clear hK K
      refine norm_ (a' := ?_) ?_ ?_
      rotate_left
      · show Act.put _ (some 22) _ = _
        simp only [Act.put, List.setIfInBounds_toArray, List.set_cons_zero, List.set_cons_succ]
        rfl
      refine pure_ (i := 10) (N := some 23) (v := ?_) (a' := ?_) #[true, true, true, true, true, true, true, true, true, true, true, false, false] rfl rfl (by kernel_rfl) (fun _ _ _ h => h) (Or.inl ⟨by rfl, ?_⟩) ?_ ?_
      rotate_left
      · intro w'
        go_simp
        with_reducible rfl
      rotate_left
      · simp only [Act.put, List.setIfInBounds_toArray, List.set_cons_zero, List.set_cons_succ]
        rfl
      refine pure_ (i := 11) (N := some 24) (v := ?_) (a' := ?_) #[true, true, true, true, true, true, true, true, true, true, true, true, false] rfl rfl (by kernel_rfl) (fun _ _ _ h => h) (Or.inl ⟨by rfl, ?_⟩) ?_ ?_
      rotate_left
      · intro w'
        go_simp
        with_reducible rfl
      rotate_left
      · simp only [Act.put, List.setIfInBounds_toArray, List.set_cons_zero, List.set_cons_succ]
        rfl
      refine last_ (i := 12) (N := none) #[true, true, true, true, true, true, true, true, true, true, true, true, true] rfl rfl (by kernel_rfl) (by decide) (fun K hK => ?_)
      refine skip_ (w1 := ?_) (by rfl) rfl ?_ ?_
      rotate_left 1
      · have hfz := HFZ.out _ HW.out
        go_simp
        rfl
      refine hK.out _ _ ?_
      clear hK K
      refine done_ (by kernel_rfl) ?_
      exact HEND.out _ HW.out
    · have HN : Hid (isNamed kk = false) := Lib.hid (Bool.eq_false_iff.2 hnm)
      clear hnm
      -- region 6: 13 operations: 0:load 1:fieldAddr 2:load 3:call 4:field 5:fieldAddr 6:load 7:nilCheck 8:load 9:call 10:binOp 11:binOp 12:store
      refine start_round (S := fun W' => W'.cell? ⟨g, 0, none⟩ = some (.string cur) ∧ W'.cell? ⟨bo, 0, none⟩ = some (.int .i64 kk) ∧ W'.cell? ⟨bo, 1, none⟩ = some (.pointer (some ⟨w.heap.size, o, none⟩)) ∧ W'.cell? ⟨w.heap.size, o, none⟩ = some (.int .i64 n)) (ds := [12]) #[false, false, false, false, false, false, false, false, false, false, false, false, false] (by kernel_rfl) (by kernel_rfl) (fun ⟨_, _, h⟩ => h) rfl rfl (HQ.out _ HW.out) (fun hHeld => ?_)
      refine pure_ (i := 1) (N := some 14) (v := ?_) (a' := ?_) #[false, true, false, false, false, false, false, false, false, false, false, false, false] rfl rfl (by kernel_rfl) (fun _ _ _ h => h) (Or.inl ⟨by rfl, ?_⟩) ?_ ?_
      rotate_left
      · intro w'
        go_simp
        with_reducible rfl
      rotate_left
      · simp only [Act.put, List.setIfInBounds_toArray, List.set_cons_zero, List.set_cons_succ]
        rfl
      refine pure_ (i := 5) (N := some 18) (v := ?_) (a' := ?_) #[false, true, false, false, false, true, false, false, false, false, false, false, false] rfl rfl (by kernel_rfl) (fun _ _ _ h => h) (Or.inl ⟨by rfl, ?_⟩) ?_ ?_
      rotate_left
      · intro w'
        go_simp
        with_reducible rfl
      rotate_left
      · simp only [Act.put, List.setIfInBounds_toArray, List.set_cons_zero, List.set_cons_succ]
        rfl
      refine take_ (i := 0) (N := some 13) (v := ?_) (a' := ?_) #[true, true, false, false, false, true, false, false, false, false, false, false, false] rfl rfl (by kernel_rfl) (fun _ _ _ h => h) (Or.inl ⟨by rfl, ?_⟩) hHeld ?_ ?_
      rotate_left
      · rintro w' ⟨e0, e1, e2, e3⟩
        go_simp
        with_reducible rfl
      rotate_left
      · simp only [Act.put, List.setIfInBounds_toArray, List.set_cons_zero, List.set_cons_succ]
        rfl
      refine take_ (i := 2) (N := some 15) (v := ?_) (a' := ?_) #[true, true, true, false, false, true, false, false, false, false, false, false, false] rfl rfl (by kernel_rfl) (fun _ _ _ h => h) (Or.inl ⟨by rfl, ?_⟩) hHeld ?_ ?_
      rotate_left
      · rintro w' ⟨e0, e1, e2, e3⟩
        go_simp
        with_reducible rfl
      rotate_left
      · simp only [Act.put, List.setIfInBounds_toArray, List.set_cons_zero, List.set_cons_succ]
        rfl
      refine take_ (i := 6) (N := some 19) (v := ?_) (a' := ?_) #[true, true, true, false, false, true, true, false, false, false, false, false, false] rfl rfl (by kernel_rfl) (fun _ _ _ h => h) (Or.inl ⟨by rfl, ?_⟩) hHeld ?_ ?_
      rotate_left
      · rintro w' ⟨e0, e1, e2, e3⟩
        go_simp
        with_reducible rfl
      rotate_left
      · simp only [Act.put, List.setIfInBounds_toArray, List.set_cons_zero, List.set_cons_succ]
        rfl
      refine pure_ (i := 7) (N := some 20) (v := ?_) (a' := ?_) #[true, true, true, false, false, true, true, true, false, false, false, false, false] rfl rfl (by kernel_rfl) (fun _ _ _ h => h) (Or.inl ⟨by rfl, ?_⟩) ?_ ?_
      rotate_left
      · intro w'
        go_simp
        with_reducible rfl
      rotate_left
      · simp only [Act.put, List.setIfInBounds_toArray, List.set_cons_zero, List.set_cons_succ]
        rfl
      refine take_ (i := 8) (N := some 21) (v := ?_) (a' := ?_) #[true, true, true, false, false, true, true, true, true, false, false, false, false] rfl rfl (by kernel_rfl) (fun _ _ _ h => h) (Or.inl ⟨by rfl, ?_⟩) hHeld ?_ ?_
      rotate_left
      · rintro w' ⟨e0, e1, e2, e3⟩
        go_simp
        with_reducible rfl
      rotate_left
      · simp only [Act.put, List.setIfInBounds_toArray, List.set_cons_zero, List.set_cons_succ]
        rfl
      refine one_ (i := 3) (N := some 16) #[true, true, true, true, false, true, true, true, true, false, false, false, false] rfl rfl (by kernel_rfl) (by decide) (fun K hK => ?_)
      refine goes_ Tryz.func38 (by kernel_rfl) rfl #[.int .i64 kk] (by rfl) rfl rfl (by simp only [List.map_toArray, List.map_cons, List.map_nil]; rfl) ?_
      with_reducible refine (HOF.out _).mono ?_
      rintro e w_ ⟨sh, rd, rfl, hfu, hb_⟩
      have HFU := Lib.hid hfu
      clear hfu
      refine ⟨_, rfl, ?_⟩
      have HW_ := Lib.hid (below_step HW.out hb_)
      clear HW
      have HW := HW_
      clear HW_ hb_
      obtain ⟨rfl, rfl⟩ := FunsAt.number HFU.out HN.out
      clear HFU
      refine hK.out _ _ (HQ.out _ HW.out) (fun hHeld => ?_)
      clear hK K
      refine norm_ (a' := ?_) ?_ ?_
      rotate_left
      · show Act.put _ (some 16) _ = _
        simp only [Act.put, List.setIfInBounds_toArray, List.set_cons_zero, List.set_cons_succ]
        rfl
      refine pure_ (i := 4) (N := some 17) (v := ?_) (a' := ?_) #[true, true, true, true, true, true, true, true, true, false, false, false, false] rfl rfl (by kernel_rfl) (fun _ _ _ h => h) (Or.inl ⟨by rfl, ?_⟩) ?_ ?_
      rotate_left
      · intro w'
        go_simp
        with_reducible rfl
      rotate_left
      · simp only [Act.put, List.setIfInBounds_toArray, List.set_cons_zero, List.set_cons_succ]
        rfl
      refine one_ (i := 9) (N := some 22) #[true, true, true, true, true, true, true, true, true, true, false, false, false] rfl rfl (by kernel_rfl) (by decide) (fun K hK => ?_)
      refine goesv_ Tryz.func86 (by kernel_rfl) rfl #[.int .i64 n] #[] #[.int .i64 n] rfl (by rfl) rfl rfl rfl (by simp only [List.map_toArray, List.map_cons, List.map_nil]; rfl) ?_
      with_reducible refine (show61_at kk n _ HN.out HI.out hk10 (HT.out.below HW.out)).mono ?_
      rintro e w_ ⟨rfl, hb_⟩
      rw [HSK.out]
      refine ⟨_, rfl, ?_⟩
      have HW_ := Lib.hid (below_step HW.out hb_)
      clear HW
      have HW := HW_
      clear HW_ hb_
      refine hK.out _ _ (HQ.out _ HW.out) (fun hHeld => ?_)
      clear hK K
      refine norm_ (a' := ?_) ?_ ?_
      rotate_left
      · show Act.put _ (some 22) _ = _
        simp only [Act.put, List.setIfInBounds_toArray, List.set_cons_zero, List.set_cons_succ]
        rfl
      refine pure_ (i := 10) (N := some 23) (v := ?_) (a' := ?_) #[true, true, true, true, true, true, true, true, true, true, true, false, false] rfl rfl (by kernel_rfl) (fun _ _ _ h => h) (Or.inl ⟨by rfl, ?_⟩) ?_ ?_
      rotate_left
      · intro w'
        go_simp
        with_reducible rfl
      rotate_left
      · simp only [Act.put, List.setIfInBounds_toArray, List.set_cons_zero, List.set_cons_succ]
        rfl
      refine pure_ (i := 11) (N := some 24) (v := ?_) (a' := ?_) #[true, true, true, true, true, true, true, true, true, true, true, true, false] rfl rfl (by kernel_rfl) (fun _ _ _ h => h) (Or.inl ⟨by rfl, ?_⟩) ?_ ?_
      rotate_left
      · intro w'
        go_simp
        with_reducible rfl
      rotate_left
      · simp only [Act.put, List.setIfInBounds_toArray, List.set_cons_zero, List.set_cons_succ]
        rfl
      refine last_ (i := 12) (N := none) #[true, true, true, true, true, true, true, true, true, true, true, true, true] rfl rfl (by kernel_rfl) (by decide) (fun K hK => ?_)
      refine skip_ (w1 := ?_) (by rfl) rfl ?_ ?_
      rotate_left 1
      · have hfz := HFZ.out _ HW.out
        go_simp
        rfl
      refine hK.out _ _ ?_
      clear hK K
      refine done_ (by kernel_rfl) ?_
      exact HEND.out _ HW.out
  case hdone =>
    rintro xs W rfl ⟨hG, hX, hB⟩ hD
    have hc := blk_cell hG 0
    simp only [List.getElem?_toArray, List.getElem?_cons_zero] at hc
    have hsz := hB.size
    gi_wp2_with fail
    refine ⟨by simp, .inl ⟨_, _, rfl, run_takeDeferred hD, ?_⟩⟩
    refine ⟨_, results_tmp rfl _ _ _, rfl, hB.trans ((Fr.putObj W _ _).below hB.size (fun i hi h => by omega))⟩
  case hstop =>
    rintro c pre W _ h
    exact h.elim
end Go.Proofs.YtamagdnlicnefaaGreatDoor
