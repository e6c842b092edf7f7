/- wrong: what is wrong with a cell. -/
import Derived.Test.YtnomjjhocblkkaaHf
namespace Go.Proofs.Ytnomjjhocblkkaa
open Go.RowKit Go.Shelf Go.Proofs.YtnomjjhocblkkaaW.PrintWords Go.Proofs.YtnomjjhocblkkaaW.PrintLast Go.Proofs.YtnomjjhocblkkaaW.PrintMore
open Go.Proofs.Ytnomjjhocblkkaa.PHeapSound
attribute [local go_sem] Oper.semAt_some
@[local go_sem] theorem wide_fn (f : Nat) : Fence.wide.fn f = True := rfl
@[local go_sem] theorem wide_depth : Fence.wide.depth.isSome = false := rfl

theorem wpIn_scope_straight {F : Fence} {n : Nat} {P : Program} {Q : Exit → Act → World → Prop} {a : Act} {w : World} {c : Code} (h : c.wpIn F n P (Exit.noGoto Q) a w) : (Code.scope c).wpIn F n P Q a w := by
  intro b k cs hro hb hr
  have h0 : (lone (b.atR a (.code (.scope c) :: k)) cs w).fenced P F := fenced_calm hb hr rfl
  have h1 : step P (lone (b.atR a (.code (.scope c) :: k)) cs w) = .next (lone (b.atR a (.code c :: .inScope c :: k)) cs w) :=
    step_lone_go (by simp [stepG, stepG.exec, Frame.atR])
  have h2 : ∀ a w, step P (lone (b.atR a (.inScope c :: k)) cs w) = .next (lone (b.atR a k) cs w) := fun _ _ =>
    step_lone_go (by simp [stepG, stepG.exec, Frame.atR])
  obtain ⟨e, a₁, w₁, hq, harr⟩ := h b (.inScope c :: k) cs hro hb hr
  have hx : ∀ id, exitTo id (.inScope c :: k) = exitTo id k := fun id => by simp [exitTo]
  cases e with
  | normal => exact ⟨.normal, a₁, w₁, hq, .head h0 h1 (StepsIn.trans harr (.one (fenced_calm hb hr rfl) (h2 _ _)))⟩
  | exit id => exact ⟨.exit id, a₁, w₁, hq, fun k' hk => .head h0 h1 (harr.1 k' (by rw [hx]; exact hk)), fun hr' hk => let ⟨k₁, h3, h4⟩ := harr.2 hr' (by rw [hx]; exact hk); ⟨k₁, h3, .head h0 h1 h4⟩⟩
  | goto l => exact hq.elim
  | ret => exact ⟨_, a₁, w₁, hq, .of_steps (.one h0 h1) harr⟩
  | panic ch => exact ⟨_, a₁, w₁, hq, .of_steps (.one h0 h1) harr⟩
  | outgrown => exact ⟨_, a₁, w₁, hq, .of_steps (.one h0 h1) harr⟩

theorem Fr.grown {S : Nat → Prop} {w W : World} {row : Option Nat} (h : w.grownBy W row) (hr : ∀ i, i < w.heap.size → row = some i → S i) : Fr S w W :=
  ⟨h.os, h.tape, h.output, h.size, fun i hi hn => h.block i hi (fun e => hn (hr i hi e.symm))⟩

/-- The tests. -/
def trB (H : HM) (n i t : Int) : Nat → Bool
  | 0 => n == 0
  | 1 => decide (i < 0) || decide (((rowOf H n).length : Int) ≤ i)
  | _ => rd (rowOf H n) i != t
/-- What is wrong with a cell. -/
def wrongC (H : HM) (n i t : Int) : Int := if trB H n i t 0 then 1 else if trB H n i t 1 then 3 else if trB H n i t 2 then 5 else 0

set_option maxRecDepth 100000 in
set_option maxHeartbeats 2000000 in
theorem wrong_any {base : Nat} {w : World} {g m : Nat} {H : HM} {R : Nat → Prop} (h : HOwn base w g m H R) (hf : HFit H) (n i t : Int) (h1' : 0 ≤ n) (h2' : n ≤ H.objs.length) :
    Calls Try.prog 38 #[.pointer (some ⟨g, 0, none⟩), .agg #[.int .i64 2, .int .i64 n], .int .i64 i, .int .i64 t] w fun e w' => e = .returned (.int .i64 (wrongC H n i t)) ∧ Below w.heap.size w w' := by
  refine (callsIn_wide (n := 9)).1 ?_
  refine callsIn_of_wp_marks Try.func38 rfl trivial ?_ rfl
  simp only [Try.ntmps38, List.size_toArray, List.length_cons, List.length_nil, Nat.reduceAdd, Nat.reduceSub, Array.replicate_succ, Array.replicate_zero, List.push_toArray, List.append_toArray, List.nil_append, List.cons_append]
  have hB0 := ((Below.refl w.heap.size w).alloc (Nat.le_refl _) (.cells #[.int .i64 2, .int .i64 n] 32)).alloc (by simp) (.cells #[.int .i64 0] 3)
  have hbr0 := World.alloc_heap_new w (.cells #[.int .i64 2, .int .i64 n] 32)
  have hq0 := blk_cell hbr0 0
  have hq1 := blk_cell hbr0 1
  simp only [List.getElem?_toArray, List.getElem?_cons_zero, List.getElem?_cons_succ] at hq0 hq1
  have hbc := Boxed.new (w.alloc (.cells #[.int .i64 2, .int .i64 n] 32)) 3 (.int .i64 0)
  rw [World.size_alloc] at hbc
  have hr0 := pw_cell_below (below_alloc (Below.refl _ (w.alloc (.cells #[.int .i64 2, .int .i64 n] 32))) (.cells #[.int .i64 0] 3)) hq0
  have hr1 := pw_cell_below (below_alloc (Below.refl _ (w.alloc (.cells #[.int .i64 2, .int .i64 n] 32))) (.cells #[.int .i64 0] 3)) hq1
  have HB0 := Lib.hid hB0
  have HBC := Lib.hid hbc
  clear hbr0 hq0 hq1 hB0 hbc
  gi_wp2
  refine wpIn_scope_straight ?_
  gi_wp2
  refine wpIn_label ?_
  gi_wp2_with (gi_at_call 55; refine (callsIn_wide.2 (troubles_any _ g n i t)).mono ?_; rintro e w1 ⟨bh, br, bi, bt, bs, ba, rfl, x1, x2, x3, x4, x5, x6, hb, hge⟩)
  have HB1 := Lib.hid (below_then HB0.out HB0.out.size hb)
  have hc1 : Boxed w1 (w.heap.size + 1) 3 (.int .i64 0) := (hb.block (w.heap.size + 1) (by simp)).trans HBC.out
  have hbr1 : w1.heap[br]? = some (.cells #[.int .i64 2, .int .i64 n] 32 (0, 0)) := x2
  have hlt1 : w.heap.size + 2 ≤ w1.heap.size := by have := hb.size; simp at this; omega
  simp only [List.mem_cons, List.not_mem_nil, or_false, forall_eq_or_imp, forall_eq, World.size_alloc] at hge
  obtain ⟨ghh, gr, gi, gt, gs, ga⟩ := hge
  have lh := x1.lt
  have lr := blk_lt x2
  have li := x3.lt
  have lt_ := x4.lt
  have ls := blk_lt x5
  have la := blk_lt x6
  have HFit_ := Lib.hid hf
  have HOw := Lib.hid h
  clear hb hbr1 HB0 HBC hr0 hr1 hf h
  refine range_adm rfl (by omega) (gf := 66) (lb := #[.pointer (some ⟨ba, 0, none⟩)]) rfl trivial (enters_of Try.func66 (by kernel_rfl) rfl)
    (encs := fun x : Nat => #[.agg #[.int .i64 (trCode x), trFn bh br bi bt x]]) (Adm := fun pre x => x = pre.length ∧ x < 3) (Kp := KpB ba bs) (S := fun ys => ys = [0, 1, 2]) (Sp := fun _ => True)
    (fun l J Jx W hW hJ hJx hY h0 => tr_in 8 l ba bs bh br bi bt J Jx (fun s A B hs hg => hJ s A B none hs hg (fun r e => by cases e)) hY W ((hW.block _ la).trans x6) ((hW.block _ ls).trans x5) h0)
    (fun h k => ⟨k.1.trans h.1, k.2.trans h.2⟩) (fun W l o o' hl _ _ _ => ⟨World.putObj_heap_other (by omega), World.putObj_heap_other (by omega)⟩) (fun _ => rfl)
    (fun pre W => (∀ y, y < pre.length → trB H n i t y = false) ∧ Boxed W (w.heap.size + 1) 3 (.int .i64 0) ∧ Below w.heap.size w W ∧ Fr (fun k => k = w.heap.size + 1) w1 W)
    (fun cd _ W => cd = .exit 0 ∧ ∃ x, wrongC H n i t = trCode x ∧ Boxed W (w.heap.size + 1) 3 (.int .i64 (trCode x)) ∧ Below w.heap.size w W)
    ?hI ?hIx ⟨fun y hy => by simp at hy, hc1, HB1.out, Fr.refl _ _⟩
    (fun x a' W => ∃ Bx, w1.heap.size ≤ Bx ∧ W.heap[Bx]? = some (.cells #[.int .i64 (trCode x), trFn bh br bi bt x] 101 (0, 0)) ∧ a' = { tmps := #[.pointer (some ⟨g, 0, none⟩), .agg #[.int .i64 2, .int .i64 n], .int .i64 i, .int .i64 t, undef, .pointer (some ⟨w.heap.size, 0, none⟩), undef, undef, .int .i64 0, .pointer (some ⟨w.heap.size + 1, 0, none⟩), .pointer (some ⟨Bx, 0, none⟩), .pointer (some ⟨g, 0, none⟩), .agg #[.int .i64 2, .int .i64 n], .int .i64 i, .int .i64 t, .func (.func 66) #[] #[.pointer (some ⟨ba, 0, none⟩)], .agg #[.int .i64 (trCode x), trFn bh br bi bt x], undef, undef, undef, undef, undef, undef], defers := [] })
    ?hAx ?assign ?body ?done ?stop
  case hI =>
    rintro pre W W' row ⟨h1, h2, h3, h4⟩ hg hr
    have hne : some (w.heap.size + 1) ≠ row := fun e => by have := (hr (w.heap.size + 1) e.symm).1; omega
    exact ⟨h1, h2.kept hg hne, h3.grown hg (by have := h3.size; omega) (fun k e => by have := (hr k e).1; omega), h4.trans (Fr.grown (S := fun i => w1.heap.size ≤ i) hg (fun i _ e => (hr i e).1)) (fun i hi hle => by omega)⟩
  case hIx =>
    rintro cd pre W W' row ⟨h1, x, h2, h3, h4⟩ hg hr
    have hne : some (w.heap.size + 1) ≠ row := fun e => by have := (hr (w.heap.size + 1) e.symm).1; omega
    exact ⟨h1, x, h2, h3.kept hg hne, h4.grown hg (by have := h4.size; omega) (fun k e => by have := (hr k e).1; omega)⟩
  case hAx =>
    rintro x a' _ W W' row ⟨Bx, h1, h2, h3⟩ hg hr
    refine ⟨Bx, h1, (hg.block Bx (blk_lt h2) (fun e => ?_)).trans h2, h3⟩
    obtain ⟨_, o, ho, hcell⟩ := hr Bx e.symm
    rw [h2] at ho; cases ho; cases hcell
  case assign =>
    rintro l pre x W K ⟨h1, h2, h3, h4⟩ ⟨hx, hx3⟩ hK
    have hlen : x = 0 ∨ x = 1 ∨ x = 2 := by omega
    have hsz := h4.size
    clear hx hx3
    rcases hlen with rfl | rfl | rfl
    all_goals
      simp only [trCode, trFn] at hK
      simp only [trCode, trFn]
      gi_wp2
      exact hK _ _ ((KeepsOthers.alloc _ _).from _) ⟨World.alloc_heap_old' _ _ (by omega), World.alloc_heap_old' _ _ (by omega)⟩
        ⟨h1, h2.alloc _, below_then h3 h3.size (below_alloc (Below.refl _ _) _), h4.trans (T := fun _ => False) (Fr.of_below (below_alloc (Below.refl _ _) _)) (fun _ _ e => e.elim)⟩
        ⟨W.heap.size, by omega, World.alloc_heap_new _ _, rfl⟩
  case body =>
    rintro l pre x a' W hl ⟨r, hr⟩ ⟨h1, h2, h3, h4⟩ ⟨hx, hx3⟩ ⟨Bx, hBx, hX, rfl⟩
    have hsz := h4.size
    have hlen : x = 0 ∨ x = 1 ∨ x = 2 := by omega
    have hK : ∀ u : World, Below W.heap.size W u → KeepsFrom w1.heap.size W u ∧ KpB ba bs W u ∧ Boxed u (w.heap.size + 1) 3 (.int .i64 0) ∧ Below w.heap.size w u ∧ Fr (fun k => k = w.heap.size + 1) w1 u := fun u hb =>
      ⟨⟨hb.size, fun k o _ hk _ => (hb.block k (blk_lt hk)).trans hk⟩, ⟨hb.block _ (by omega), hb.block _ (by omega)⟩, (hb.block (w.heap.size + 1) (by have := h2.lt; omega)).trans h2, below_then h3 h3.size hb, h4.trans (T := fun _ => False) (Fr.of_below hb) (fun _ _ e => e.elim)⟩
    have HK := Lib.hid hK
    have H1 := Lib.hid h1
    have HX := Lib.hid hx
    have b2 : W.heap[br]? = some (.cells #[.int .i64 2, .int .i64 n] 32 (0, 0)) := (h4.block br lr (by omega)).trans x2
    have b1 : Boxed W bh 25 (.pointer (some ⟨g, 0, none⟩)) := (h4.block bh lh (by omega)).trans x1
    have b3 : Boxed W bi 3 (.int .i64 i) := (h4.block bi li (by omega)).trans x3
    have b4 : Boxed W bt 3 (.int .i64 t) := (h4.block bt lt_ (by omega)).trans x4
    have hO := HOw.out.below h3
    have q0 := blk_cell hX 0
    have q1 := blk_cell hX 1
    simp only [List.getElem?_toArray, List.getElem?_cons_zero, List.getElem?_cons_succ] at q0 q1
    have HZS := hsz
    clear hr
    rcases hlen with rfl | rfl | rfl
    · have hcl := c63_any W br n b2
      have hT0 : (n == 0) = trB H n i t 0 := rfl
      rw [hT0] at hcl
      clear hT0
      simp only [trFn, trCode] at q0 q1
      simp only [trFn, trCode]
      by_cases hT : trB H n i t 0 = true
      · rw [hT] at hcl
        have HCL := Lib.hid hcl
        have HT := Lib.hid hT
        have H2 := Lib.hid h2
        clear hcl hT h1 h2 h3 h4 b1 b2 b3 b4 hO hX hx HZS
        gi_wp2_with (gi_at_call 63; refine (CallsIn.inRound l (callsIn_wide.2 HCL.out)).mono ?_; rintro e u ⟨rfl, hb⟩; have hk := HK.out u hb; have z0 := pw_cell_below hb q0; have z1 := pw_cell_below hb q1; have zf := hk.2.2.1.frozen; have zc := hk.2.2.1.cell)
        have hk := HK.out u (by assumption)
        refine ⟨hk.1.trans ((KeepsOthers.setCell _ _ _).from _), rfl, 0, ?_, ?_, hk.2.2.2.1.setCell (by simp) _⟩
        · show wrongC H n i t = 1
          unfold wrongC
          simp [HT.out]
        · show (u.setCell ⟨w.heap.size + 1, 0, none⟩ (.int .i64 1)).heap[w.heap.size + 1]? = some (.cells #[.int .i64 1] 3 (0, 0))
          have := blk_set hk.2.2.1 0 (.int .i64 1)
          simpa using this
      · have hT : trB H n i t 0 = false := by simpa using hT
        rw [hT] at hcl
        have HCL := Lib.hid hcl
        have HT := Lib.hid hT
        clear hcl hT h1 h2 h3 h4 b1 b2 b3 b4 hO hX hx HZS
        gi_wp2_with (gi_at_call 63; refine (CallsIn.inRound l (callsIn_wide.2 HCL.out)).mono ?_; rintro e u ⟨rfl, hb⟩; have z0 := pw_cell_below hb q0; have z1 := pw_cell_below hb q1)
        have hk := HK.out u (by assumption)
        refine ⟨hk.1, hk.2.1, fun y hy => ?_, hk.2.2⟩
        rw [List.length_append, List.length_singleton] at hy
        rcases Nat.lt_or_ge y pre.length with h | h
        · exact H1.out y h
        · have := HX.out
          obtain rfl : y = 0 := by omega
          exact HT.out
    · have hz := H1.out 0 (by omega)
      have hn1 : 1 ≤ n := by simp [trB] at hz; omega
      have hcl := c64_any hO HFit_.out bi bh br n i hn1 h2' b3 b1 b2
      have hT0 : (decide (i < 0) || decide (((rowOf H n).length : Int) ≤ i)) = trB H n i t 1 := rfl
      rw [hT0] at hcl
      clear hT0
      simp only [trFn, trCode] at q0 q1
      simp only [trFn, trCode]
      by_cases hT : trB H n i t 1 = true
      · rw [hT] at hcl
        have HCL := Lib.hid hcl
        have HT := Lib.hid hT
        have H2 := Lib.hid h2
        clear hcl hT h1 h2 h3 h4 b1 b2 b3 b4 hO hX hx HZS
        gi_wp2_with (gi_at_call 64; refine (CallsIn.inRound l (callsIn_wide.2 HCL.out)).mono ?_; rintro e u ⟨rfl, hb⟩; have hk := HK.out u hb; have z0 := pw_cell_below hb q0; have z1 := pw_cell_below hb q1; have zf := hk.2.2.1.frozen; have zc := hk.2.2.1.cell)
        have hk := HK.out u (by assumption)
        refine ⟨hk.1.trans ((KeepsOthers.setCell _ _ _).from _), rfl, 1, ?_, ?_, hk.2.2.2.1.setCell (by simp) _⟩
        · show wrongC H n i t = 3
          unfold wrongC
          simp [HT.out, H1.out 0 (by have := HX.out; omega)]
        · show (u.setCell ⟨w.heap.size + 1, 0, none⟩ (.int .i64 3)).heap[w.heap.size + 1]? = some (.cells #[.int .i64 3] 3 (0, 0))
          have := blk_set hk.2.2.1 0 (.int .i64 3)
          simpa using this
      · have hT : trB H n i t 1 = false := by simpa using hT
        rw [hT] at hcl
        have HCL := Lib.hid hcl
        have HT := Lib.hid hT
        clear hcl hT h1 h2 h3 h4 b1 b2 b3 b4 hO hX hx HZS
        gi_wp2_with (gi_at_call 64; refine (CallsIn.inRound l (callsIn_wide.2 HCL.out)).mono ?_; rintro e u ⟨rfl, hb⟩; have z0 := pw_cell_below hb q0; have z1 := pw_cell_below hb q1)
        have hk := HK.out u (by assumption)
        refine ⟨hk.1, hk.2.1, fun y hy => ?_, hk.2.2⟩
        rw [List.length_append, List.length_singleton] at hy
        rcases Nat.lt_or_ge y pre.length with h | h
        · exact H1.out y h
        · have := HX.out
          obtain rfl : y = 1 := by omega
          exact HT.out
    · have hz := H1.out 0 (by omega)
      have hn1 : 1 ≤ n := by simp [trB] at hz; omega
      have hz1 := H1.out 1 (by omega)
      have hi1 : 0 ≤ i ∧ i < (rowOf H n).length := by simp [trB] at hz1; omega
      have hcl := c65_any hO HFit_.out bi bh br bt n i t hn1 h2' hi1.1 hi1.2 b3 b1 b2 b4
      have hT0 : (rd (rowOf H n) i != t) = trB H n i t 2 := rfl
      rw [hT0] at hcl
      clear hT0
      simp only [trFn, trCode] at q0 q1
      simp only [trFn, trCode]
      by_cases hT : trB H n i t 2 = true
      · rw [hT] at hcl
        have HCL := Lib.hid hcl
        have HT := Lib.hid hT
        have H2 := Lib.hid h2
        clear hcl hT h1 h2 h3 h4 b1 b2 b3 b4 hO hX hx HZS
        gi_wp2_with (gi_at_call 65; refine (CallsIn.inRound l (callsIn_wide.2 HCL.out)).mono ?_; rintro e u ⟨rfl, hb⟩; have hk := HK.out u hb; have z0 := pw_cell_below hb q0; have z1 := pw_cell_below hb q1; have zf := hk.2.2.1.frozen; have zc := hk.2.2.1.cell)
        have hk := HK.out u (by assumption)
        refine ⟨hk.1.trans ((KeepsOthers.setCell _ _ _).from _), rfl, 2, ?_, ?_, hk.2.2.2.1.setCell (by simp) _⟩
        · show wrongC H n i t = 5
          unfold wrongC
          simp [HT.out, H1.out 0 (by have := HX.out; omega), H1.out 1 (by have := HX.out; omega)]
        · show (u.setCell ⟨w.heap.size + 1, 0, none⟩ (.int .i64 5)).heap[w.heap.size + 1]? = some (.cells #[.int .i64 5] 3 (0, 0))
          have := blk_set hk.2.2.1 0 (.int .i64 5)
          simpa using this
      · have hT : trB H n i t 2 = false := by simpa using hT
        rw [hT] at hcl
        have HCL := Lib.hid hcl
        have HT := Lib.hid hT
        clear hcl hT h1 h2 h3 h4 b1 b2 b3 b4 hO hX hx HZS
        gi_wp2_with (gi_at_call 65; refine (CallsIn.inRound l (callsIn_wide.2 HCL.out)).mono ?_; rintro e u ⟨rfl, hb⟩; have z0 := pw_cell_below hb q0; have z1 := pw_cell_below hb q1)
        have hk := HK.out u (by assumption)
        refine ⟨hk.1, hk.2.1, fun y hy => ?_, hk.2.2⟩
        rw [List.length_append, List.length_singleton] at hy
        rcases Nat.lt_or_ge y pre.length with h | h
        · exact H1.out y h
        · have := HX.out
          obtain rfl : y = 2 := by omega
          exact HT.out
  case done =>
    rintro D ys W hD rfl ⟨h1, h2, h3, h4⟩ hK
    have hw : wrongC H n i t = 0 := by unfold wrongC; simp [h1 0 (by decide), h1 1 (by decide), h1 2 (by decide)]
    have HW := Lib.hid hw
    have zc := h2.cell
    clear hw h1
    gi_wp2
    rw [Exit.noGoto_ret]
    refine ⟨by simp, .inl ⟨_, _, rfl, run_takeDeferred hK, ?_⟩⟩
    refine ⟨_, results_tmp rfl _ _ _, by rw [HW.out]; rfl, h3.grown (grownBy_putObj' W D _) (by have := h3.size; omega) (fun k e => by cases e; omega)⟩
  case stop =>
    rintro D cd pre W hD _ ⟨rfl, x, hw, h2, h3⟩ hK
    have HW := Lib.hid hw
    have zc := h2.cell
    clear hw
    gi_wp2
    rw [Exit.noGoto_ret]
    refine ⟨by simp, .inl ⟨_, _, rfl, run_takeDeferred hK, ?_⟩⟩
    refine ⟨_, results_tmp rfl _ _ _, by rw [HW.out]; rfl, h3.grown (grownBy_putObj' W D _) (by have := h3.size; omega) (fun k e => by cases e; omega)⟩
end Go.Proofs.Ytnomjjhocblkkaa
