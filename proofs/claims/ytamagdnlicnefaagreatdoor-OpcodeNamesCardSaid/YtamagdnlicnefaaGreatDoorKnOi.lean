/- Opcode: Decode. -/
import Derived.Test.YtamagdnlicnefaaGreatDoorKnOh
namespace Go.Proofs.YtamagdnlicnefaaGreatDoor
open Go.RowKit Go.Shelf Go.Proofs.YtamagdnlicnefaaGreatDoorW.PrintWords Go.Proofs.YtamagdnlicnefaaGreatDoorW.PrintLast Go.Proofs.YtamagdnlicnefaaGreatDoorW.PrintMore
attribute [local go_sem] Oper.semAt_some wide_fn2 wide_depth2

theorem results_ct {fn : Func} {p u : Tmp} {ty : TypeId} (h : fn.results = #[.cell p ty, .tmp u]) (tmps : Array Value) (P : Program) (w : World) (g : Nat) (cs : Array Value)
    (hp : tmps.getD p undef = .pointer (some ⟨g, 0, none⟩)) (hl : (loadVar ty ⟨g, 0, none⟩).run P w = .ok (.agg cs) w) :
    (results fn tmps).run P w = .ok (.tuple #[.agg cs, tmps.getD u undef]) w := by
  rw [results_cell_tmp h, hp]
  simp only [asAddr]
  show ((Sem.run P (pure _) w).andThen _) = _
  simp only [Sem.run_pure, Result.andThen_ok]
  rw [hl]
  rfl
theorem set3 {W : World} {b : Nat} {x y z u0 u1 u2 : Value} (h : W.heap[b]? = some (.cells #[x, y, z] 23 (0, 0))) :
    (((W.setCell ⟨b, 0, none⟩ u0).setCell ⟨b, 1, none⟩ u1).setCell ⟨b, 2, none⟩ u2).heap[b]? = some (.cells #[u0, u1, u2] 23 (0, 0)) ∧ Fr (fun i => i = b) W (((W.setCell ⟨b, 0, none⟩ u0).setCell ⟨b, 1, none⟩ u1).setCell ⟨b, 2, none⟩ u2) := by
  refine ⟨?_, Fr.set (S := fun i => i = b) (Fr.set (S := fun i => i = b) (Fr.set (S := fun i => i = b) (Fr.refl _ _) _ _ (fun _ => rfl)) _ _ (fun _ => rfl)) _ _ (fun _ => rfl)⟩
  have h0 := blk_set h 0 u0
  have h1 := blk_set h0 1 u1
  have h2 := blk_set h1 2 u2
  simpa using h2
theorem ReelIs.fr23 {X Y : World} {g base p b : Nat} {v : Value} {bs : List Int} {c : Array Value} (h : ReelIs X g base v bs p) (hx : X.heap[b]? = some (.cells c 23 (0, 0))) (hf : Fr (fun i => i = b) X Y) : ReelIs Y g base v bs p := by
  have ne : ∀ {i : Nat} {d : Array Value} {t : TypeId}, X.heap[i]? = some (.cells d t (0, 0)) → t ≠ 23 → i ≠ b := fun {i d t} h1 h2 e => by
    subst e
    rw [hx] at h1
    injection h1 with h1
    injection h1 with _ h1
    exact h2 h1.symm
  refine ⟨hf.at h.blk (ne h.blk (by decide)), ⟨h.own.1, ?_⟩, h.le, h.small, h.bytes⟩
  rcases h.own.2 with h' | ⟨r, cap, cur, hu, hb, hr, rest⟩
  · exact .inl h'
  · exact .inr ⟨r, cap, cur, hu, hb, hf.at hr (ne hr (by decide)), rest⟩
structure DecC (w : World) (g base : Nat) (v : Value) (bs : List Int) (p m be : Nat) (F : Int × Int × Nat × Nat) (W : World) : Prop where
  reel : ReelIs W g base v bs (p + F.2.2.2)
  x : W.heap[be + 1]? = some (.cells #[.int .i64 m, .int .i64 F.1, .int .i64 F.2.1] 23 (0, 0))
  e : W.heap[be]? = some (.cells #[.int .i64 F.2.2.1] 28 (0, 0))
  r : W.heap[w.heap.size + 1]? = some (.cells #[.int .i64 0, .int .i64 0, .int .i64 0] 23 (0, 0))
  b : W.heap[w.heap.size]? = some (.cells #[.pointer (some ⟨g, 0, none⟩)] 54 (0, 0))
  fr : Fr (fun i => i = g) w W
theorem ReelIs.fr {S : Nat → Prop} {X Y : World} {g base p : Nat} {v : Value} {bs : List Int} (h : ReelIs X g base v bs p) (hf : Fr S X Y) (hg : ¬ S g) (hv : ∀ r, v.ownBlock = some r → ¬ S r) : ReelIs Y g base v bs p := by
  refine ⟨hf.at h.blk hg, ⟨h.own.1, ?_⟩, h.le, h.small, h.bytes⟩
  rcases h.own.2 with h' | ⟨r, cap, cur, hu, hb, hr, rest⟩
  · exact .inl h'
  · exact .inr ⟨r, cap, cur, hu, hb, hf.at hr (hv r (by rw [hu]; rfl)), rest⟩
theorem DecC.mk' {w : World} {g base : Nat} {v : Value} {bs : List Int} {p m be : Nat} {F : Int × Int × Nat × Nat} {X Y : World} {S : Nat → Prop} (h : DecC w g base v bs p m be F X) (hg : g < w.heap.size) (hv : ∀ r, v.ownBlock = some r → r < w.heap.size) (hbe : w.heap.size + 1 < be) (hf : Fr S X Y) (hS : ∀ i, S i → be + 2 ≤ i) : DecC w g base v bs p m be F Y :=
  ⟨h.reel.fr hf (fun h' => by have := hS _ h'; omega) (fun r hr h' => by have := hS _ h'; have := hv r hr; omega), hf.at h.x (fun h' => by have := hS _ h'; omega), hf.at h.e (fun h' => by have := hS _ h'; omega), hf.at h.r (fun h' => by have := hS _ h'; omega), hf.at h.b (fun h' => by have := hS _ h'; omega),
    h.fr.trans hf (fun i hi h' => by have := hS _ h'; omega)⟩
def DecI (w : World) (g base : Nat) (v : Value) (bs : List Int) (p m wd be : Nat) (pre : List (Nat × Nat)) (W : World) : Prop :=
  DecC w g base v bs p m be (foldR (rest bs p) wd pre) W ∧ ∀ pre', pre' <+: pre → (foldR (rest bs p) wd pre').2.2.1 = 0
def DecX (w : World) (g base : Nat) (v : Value) (bs : List Int) (p m wd be : Nat) (c : Code) (pre : List (Nat × Nat)) (W : World) : Prop :=
  c = .exit 0 ∧ ∃ pre0 x, pre = pre0 ++ [x] ∧ DecC w g base v bs p m be (foldR (rest bs p) wd pre) W ∧ (foldR (rest bs p) wd pre0).2.2.1 = 0 ∧ (foldR (rest bs p) wd pre).2.2.1 ≠ 0
def DecPost (w : World) (g base : Nat) (v : Value) (bs : List Int) (p : Nat) (r : (Int × Int × Int) × Nat × Nat) (e : Ending) (w' : World) : Prop :=
  e = .returned (.tuple #[.agg #[.int .i64 r.1.1, .int .i64 r.1.2.1, .int .i64 r.1.2.2], .int .i64 r.2.1]) ∧ ReelIs w' g base v bs (p + r.2.2) ∧ Fr (fun i => i = g) w w'
set_option maxRecDepth 100000 in
set_option maxHeartbeats 4000000 in
theorem Decode15_bad (g base : Nat) (v : Value) (bs : List Int) (p : Nat) (w : World) (hR : ReelIs w g base v bs p) (he : (readN (rest bs p) 29).2.1 ≠ 0) :
    Calls Tryz.prog 30 #[.pointer (some ⟨g, 0, none⟩)] w (DecPost w g base v bs p (decR (rest bs p))) := by
  have HD : Hid (decR (rest bs p) = ((0, 0, 0), (readN (rest bs p) 29).2.1, (readN (rest bs p) 29).2.2)) := Lib.hid (if_pos he)
  have HN := Lib.hid (fun W (h : ReelIs W g base v bs p) => RNumber_any W g base v bs p 29 h)
  have HR := Lib.hid hR
  have hg := blk_lt hR.blk
  have hcode := readN_code (rest bs p) 29
  have hm29 := readN_le (rest bs p) 29 (by omega)
  generalize decR (rest bs p) = dR at *
  generalize readN (rest bs p) 29 = rN at *
  obtain ⟨m, code, wd⟩ := rN
  simp only at HN HD he hcode hm29
  have hcb : ((code : Int) != 0) = true := by rw [bne_iff_ne]; omega
  clear hR he
  refine (callsIn_wide (n := 9)).1 ?_
  refine callsIn_of_wp_marks Tryz.func30 rfl trivial ?_ rfl
  simp only [Tryz.ntmps30, List.size_toArray, List.length_cons, List.length_nil, Nat.reduceAdd, Nat.reduceSub, Array.replicate_succ, Array.replicate_zero, List.push_toArray, List.append_toArray, List.nil_append, List.cons_append]
  gi_wp2_with fail
  refine wpIn_scope_straight ?_
  have hB0 := below_alloc (below_alloc (Below.refl w.heap.size w) (.cells #[.pointer (some ⟨g, 0, none⟩)] 54)) (.cells #[.int .i64 0, .int .i64 0, .int .i64 0] 23)
  have hx2 := World.alloc_heap_new (w.alloc (.cells #[.pointer (some ⟨g, 0, none⟩)] 54)) (.cells #[.int .i64 0, .int .i64 0, .int .i64 0] 23)
  rw [World.size_alloc] at hx2
  have HB0 := Lib.hid hB0
  have HX2 := Lib.hid hx2
  clear hB0 hx2
  gi_wp2_with fail
  refine (callsIn_wide.2 (HN.out _ (HR.out.below HB0.out))).mono ?_
  rintro e w1 ⟨rfl, hR1, hF1⟩
  have hx1 := hF1.at HX2.out (show ¬ w.heap.size + 1 = g by omega)
  have hl1 : Fr (fun i => i = g) w w1 := (Fr.of_below HB0.out).trans hF1 (fun _ _ h => h)
  have hs1 : w.heap.size + 1 < w1.heap.size := blk_lt hx1
  have HR1 := Lib.hid hR1
  have HX1 := Lib.hid hx1
  have HL1 := Lib.hid hl1
  clear hR1 hF1 hx1 hl1 HX2 HB0 HR
  gi_wp2_with fail
  have hw2 := below_alloc (below_alloc (Below.refl w1.heap.size w1) (.cells #[.int .i64 code] 28)) (.cells #[.int .i64 m, .int .i64 0, .int .i64 0] 23)
  have he2 : ((w1.alloc (.cells #[.int .i64 code] 28)).alloc (.cells #[.int .i64 m, .int .i64 0, .int .i64 0] 23)).heap[w1.heap.size]? = some (.cells #[.int .i64 code] 28 (0, 0)) := (Below.heap_alloc _ _ _ (by simp)).trans (World.alloc_heap_new w1 _)
  have hx2 := (hw2.block _ hs1).trans HX1.out
  have hR2 := HR1.out.below hw2
  have hl2 : Fr (fun i => i = g) w _ := HL1.out.trans (Fr.of_below (S := fun _ => False) hw2) (fun _ _ h => h.elim)
  generalize (w1.alloc (.cells #[.int .i64 code] 28)).alloc (.cells #[.int .i64 m, .int .i64 0, .int .i64 0] 23) = w2 at *
  have y0 := blk_cell hx2 0
  have y1 := blk_cell hx2 1
  have y2 := blk_cell hx2 2
  have f0 := blk_frozen hx2 0
  have f1 := blk_frozen hx2 1
  have f2 := blk_frozen hx2 2
  have ye := blk_cell he2 0
  simp only [List.getElem?_toArray, List.getElem?_cons_zero, List.getElem?_cons_succ] at y0 y1 y2 ye
  have hge : w.heap.size + 1 ≠ w1.heap.size := by omega
  have HX2 := Lib.hid hx2
  have HR2 := Lib.hid hR2
  have HL2 := Lib.hid hl2
  clear hx2 hR2 hl2 hw2 he2
  gi_region
  obtain ⟨z1, z2⟩ := set3 (u0 := .int .i64 0) (u1 := .int .i64 0) (u2 := .int .i64 0) HX2.out
  have z3 := HR2.out.fr23 HX2.out z2
  have z4 : Fr (fun i => i = g) w _ := HL2.out.trans z2 (fun i hi h => by omega)
  generalize ((w2.setCell ⟨w.heap.size + 1, 0, none⟩ (.int .i64 0)).setCell ⟨w.heap.size + 1, 1, none⟩ (.int .i64 0)).setCell ⟨w.heap.size + 1, 2, none⟩ (.int .i64 0) = w3 at *
  have Z1 := Lib.hid (show w3.drew.heap[w.heap.size + 1]? = _ from z1)
  have Z3 := Lib.hid z3
  have Z4 := Lib.hid z4.drew
  clear z1 z2 z3 z4 y0 y1 y2 f0 f1 f2 ye
  gi_wp2
  rw [Exit.noGoto_ret]
  refine ⟨_, results_ct rfl _ _ _ (w.heap.size + 1) _ rfl (run_loadVar_row _ _ 23 23 _ (0, 0) _ Z1.out Tryz.underlying23 rfl (by kernel_rfl)), ?_⟩
  rw [HD.out]
  exact ⟨rfl, Z3.out.below (below_drew (Below.refl _ _)), Z4.out⟩
set_option maxRecDepth 100000 in
set_option maxHeartbeats 4000000 in
theorem Decode15_ok (g base : Nat) (v : Value) (bs : List Int) (p : Nat) (w : World) (hR : ReelIs w g base v bs p) (he : (readN (rest bs p) 29).2.1 = 0) :
    Calls Tryz.prog 30 #[.pointer (some ⟨g, 0, none⟩)] w (DecPost w g base v bs p (decR (rest bs p))) := by
  have HD : Hid (decR (rest bs p) = decR2 (readN (rest bs p) 29).1 (decO (ka (readN (rest bs p) 29).1) (kb (readN (rest bs p) 29).1) (rest bs p) (readN (rest bs p) 29).2.2)) := Lib.hid (if_neg (by omega))
  have HN := Lib.hid (fun W (h : ReelIs W g base v bs p) => RNumber_any W g base v bs p 29 h)
  have HR := Lib.hid hR
  have hg := blk_lt hR.blk
  have HV : Hid (∀ r, v.ownBlock = some r → r < w.heap.size) := Lib.hid (fun r hr => by
    rcases hR.own.2 with ⟨rfl, _⟩ | ⟨r', cap, cur, rfl, hb, hr', _⟩
    · cases hr
    · obtain rfl : r' = r := by simpa [Value.ownBlock] using hr
      exact blk_lt hr')
  have hcode := readN_code (rest bs p) 29
  have hm29 := readN_le (rest bs p) 29 (by omega)
  generalize decR (rest bs p) = dR at *
  generalize readN (rest bs p) 29 = rN at *
  obtain ⟨m, code, wd⟩ := rN
  simp only at HN HD he hcode hm29
  subst he
  clear hR hcode
  refine (callsIn_wide (n := 9)).1 ?_
  refine callsIn_of_wp_marks Tryz.func30 rfl trivial ?_ rfl
  simp only [Tryz.ntmps30, List.size_toArray, List.length_cons, List.length_nil, Nat.reduceAdd, Nat.reduceSub, Array.replicate_succ, Array.replicate_zero, List.push_toArray, List.append_toArray, List.nil_append, List.cons_append]
  gi_wp2_with fail
  refine wpIn_scope_straight ?_
  have hB0 := below_alloc (below_alloc (Below.refl w.heap.size w) (.cells #[.pointer (some ⟨g, 0, none⟩)] 54)) (.cells #[.int .i64 0, .int .i64 0, .int .i64 0] 23)
  have hx2 := World.alloc_heap_new (w.alloc (.cells #[.pointer (some ⟨g, 0, none⟩)] 54)) (.cells #[.int .i64 0, .int .i64 0, .int .i64 0] 23)
  rw [World.size_alloc] at hx2
  have HB0 := Lib.hid hB0
  have hxb : ((w.alloc (.cells #[.pointer (some ⟨g, 0, none⟩)] 54)).alloc (.cells #[.int .i64 0, .int .i64 0, .int .i64 0] 23)).heap[w.heap.size]? = some (.cells #[.pointer (some ⟨g, 0, none⟩)] 54 (0, 0)) := (Below.heap_alloc _ _ _ (by simp)).trans (World.alloc_heap_new w _)
  have HXB := Lib.hid hxb
  have HX2 := Lib.hid hx2
  clear hB0 hx2 hxb
  gi_wp2_with fail
  refine (callsIn_wide.2 (HN.out _ (HR.out.below HB0.out))).mono ?_
  rintro e w1 ⟨rfl, hR1, hF1⟩
  have hx1 := hF1.at HX2.out (show ¬ w.heap.size + 1 = g by omega)
  have hl1 : Fr (fun i => i = g) w w1 := (Fr.of_below HB0.out).trans hF1 (fun _ _ h => h)
  have hs1 : w.heap.size + 1 < w1.heap.size := blk_lt hx1
  have HR1 := Lib.hid hR1
  have HX1 := Lib.hid hx1
  have HB1 := Lib.hid (hF1.at HXB.out (show ¬ w.heap.size = g by omega))
  have HL1 := Lib.hid hl1
  clear hR1 hF1 hx1 hl1 HX2 HB0 HR HXB
  gi_wp2_with fail
  refine wpIn_label ?_
  have hw2 := below_alloc (below_alloc (Below.refl w1.heap.size w1) (.cells #[.int .i64 0] 28)) (.cells #[.int .i64 m, .int .i64 0, .int .i64 0] 23)
  have he2 : ((w1.alloc (.cells #[.int .i64 0] 28)).alloc (.cells #[.int .i64 m, .int .i64 0, .int .i64 0] 23)).heap[w1.heap.size]? = some (.cells #[.int .i64 0] 28 (0, 0)) := (Below.heap_alloc _ _ _ (by simp)).trans (World.alloc_heap_new w1 _)
  have hx2 : XAt ((w1.alloc (.cells #[.int .i64 0] 28)).alloc (.cells #[.int .i64 m, .int .i64 0, .int .i64 0] 23)) (w1.heap.size + 1) m 0 0 := by
    have := World.alloc_heap_new (w1.alloc (.cells #[.int .i64 0] 28)) (.cells #[.int .i64 m, .int .i64 0, .int .i64 0] 23)
    rw [World.size_alloc] at this
    exact this
  have hr2 := (hw2.block _ hs1).trans HX1.out
  have hb2 := (hw2.block w.heap.size (by omega)).trans HB1.out
  have hR2 := HR1.out.below hw2
  have hl2 : Fr (fun i => i = g) w _ := HL1.out.trans (Fr.of_below (S := fun _ => False) hw2) (fun _ _ h => h.elim)
  have hs2 : ((w1.alloc (.cells #[.int .i64 0] 28)).alloc (.cells #[.int .i64 m, .int .i64 0, .int .i64 0] 23)).heap.size = w1.heap.size + 2 := by simp
  generalize (w1.alloc (.cells #[.int .i64 0] 28)).alloc (.cells #[.int .i64 m, .int .i64 0, .int .i64 0] 23) = w2 at *
  clear hw2 HX1 HB1 HR1 HL1
  have HO := Lib.hid (operands26_any (w1.heap.size + 1) m 0 0 w2 hx2)
  gi_wp2_with fail
  refine (callsIn_wide.2 HO.out).mono ?_
  rintro e w4 ⟨bb, bs', rfl, hbo4, hbb, hbs, hb4⟩
  have hF4 : Fr (fun _ => False) w2 w4 := Fr.of_below hb4
  have hin : DecI w g base v bs p m wd w1.heap.size [] w4 := by
    refine ⟨⟨by rw [foldR_0]; exact hR2.below hb4, hF4.at hx2 id, hF4.at he2 id, hF4.at hr2 id, hF4.at hb2 id, hl2.trans hF4 (fun _ _ h => h.elim)⟩, fun pre hp => ?_⟩
    rw [List.prefix_nil.1 hp]; rfl
  have hbb4 := blk_lt hbo4.1
  have hbs4 := blk_lt hbo4.2
  have HIN := Lib.hid hin
  have HBO := Lib.hid hbo4
  have h24 := hb4.size
  clear hin hbo4 hF4 hb4 hx2 he2 hr2 hb2 hR2 hl2 HO HN
  gi_wp2
  refine range_ga rfl (by omega) (gf := 64) (lb := #[.pointer (some ⟨bb, 0, none⟩)]) rfl trivial (enters_of Tryz.func64 (by kernel_rfl) rfl)
    (operands47_seq (9 - 1) bb bs' (w1.heap.size + 1) (ka m) (kb m) (w4.heap.size + 2) w4 HBO.out) (by omega) (by omega) (fun _ => rfl)
    (DecI w g base v bs p m wd w1.heap.size) (DecX w g base v bs p m wd w1.heap.size) ?hI ?hIx HIN.out (fun _ _ _ _ h _ => h)
    (fun x a' W => ∃ bo, w4.heap.size + 2 ≤ bo ∧ W.heap[bo]? = some (.cells #[.int .i64 x.1, .pointer (some ⟨w1.heap.size + 1, x.2, none⟩)] 81 (0, 0)) ∧
      a' = { tmps := #[.pointer (some ⟨g, 0, none⟩), .pointer (some ⟨w.heap.size, 0, none⟩), .pointer (some ⟨w.heap.size + 1, 0, none⟩), .int .i64 0, .int .u64 m, .pointer (some ⟨w1.heap.size, 0, none⟩), .pointer (some ⟨w1.heap.size + 1, 0, none⟩), .pointer (some ⟨bo, 0, none⟩), .tuple #[.int .u64 m, .int .i64 0], .pointer (some ⟨g, 0, none⟩), .tuple #[.int .u64 m, .int .i64 0], .int .u64 m, .int .i64 0, .int .u64 m, .int .i64 m, .agg #[.int .i64 m, .int .i64 0, .int .i64 0], .int .i64 0, .bool false, undef, undef, .func (.func 64) #[] #[.pointer (some ⟨bb, 0, none⟩)], .agg #[.int .i64 x.1, .pointer (some ⟨w1.heap.size + 1, x.2, none⟩)], undef, undef, undef, undef, undef, undef, undef, undef, undef, undef], defers := [] }) ?hAx ?hassign ?hbody ?hdone ?hstop
  case hI =>
    rintro pre X Y h hf
    have key : ∀ i, Wd (fun i => i = bb ∨ i = bs') w4.heap.size i → w1.heap.size + 2 ≤ i := fun i hi => by rcases hi with (h | h) | h | h <;> omega
    exact ⟨h.1.mk' hg HV.out (by omega) hf (fun i h => by have := key i h; omega), h.2⟩
  case hIx =>
    rintro c pre X Y ⟨rfl, pre0, x, h0, h1, h2⟩ hf
    have key : ∀ i, Wd (fun i => i = bb ∨ i = bs') w4.heap.size i → w1.heap.size + 2 ≤ i := fun i hi => by rcases hi with (h | h) | h | h <;> omega
    exact ⟨rfl, pre0, x, h0, h1.mk' hg HV.out (by omega) hf (fun i h => by have := key i h; omega), h2⟩
  case hAx =>
    rintro x a' X Y ⟨bo, h1, h2, h3⟩ hf
    exact ⟨bo, h1, hf.at h2 (fun h => by omega), h3⟩
  case hassign =>
    rintro l pre ⟨kk, o⟩ W K hW _ hK
    unfold opEnc
    gi_wp2
    exact hK _ _ (below_alloc (Below.refl _ _) _) ⟨_, hW, World.alloc_heap_new W _, rfl⟩
  case hbody =>
    rintro l pre ⟨kk, o⟩ a' W hW ⟨hC, hz⟩ hadm ⟨bo, hbo, hco, rfl⟩
    simp only at hco hadm ⊢
    have hmem : kk ≤ 10 ∧ (o = 1 ∨ o = 2) := by
      rcases opsL_mem (hadm.subset (List.mem_append_right _ (List.mem_singleton.2 rfl))) with ⟨h, _⟩ | ⟨h, _⟩
      · injection h with h1 h2; subst h1; subst h2; exact ⟨ka_le _, .inl rfl⟩
      · injection h with h1 h2; subst h1; subst h2; exact ⟨kb_le _, .inr rfl⟩
    obtain ⟨hk10, ho⟩ := hmem
    have HZ := Lib.hid hz
    have HS : Hid (foldR (rest bs p) wd (pre ++ [(kk, o)]) = stepR (rest bs p) (foldR (rest bs p) wd pre) (kk, o)) := Lib.hid (foldR_snoc _ _ _ _)
    have hz0 := hz pre List.prefix_rfl
    generalize hFp : foldR (rest bs p) wd pre = F at *
    obtain ⟨Fa, Fb, Fe, Fw⟩ := F
    simp only at hz0
    subst hz0
    have hone := one34_any g base (w1.heap.size + 1) o kk v bs (p + Fw) (.int .i64 m) (.int .i64 Fa) (.int .i64 Fb) W hC.reel hC.x hk10 ho
    rw [rest_drop] at hone
    have HST : Hid (stepR (rest bs p) (Fa, Fb, 0, Fw) (kk, o) = (if o = 1 then (oneR kk ((rest bs p).drop Fw)).1 else Fa, if o = 1 then Fb else (oneR kk ((rest bs p).drop Fw)).1, (oneR kk ((rest bs p).drop Fw)).2.1, Fw + (oneR kk ((rest bs p).drop Fw)).2.2)) := Lib.hid rfl
    generalize oneR kk ((rest bs p).drop Fw) = R at *
    obtain ⟨n, c, wn⟩ := R
    simp only at hone
    have hcb := blk_cell hC.b 0
    have hc0 := blk_cell hco 0
    have hc1 := blk_cell hco 1
    simp only [List.getElem?_toArray, List.getElem?_cons_zero, List.getElem?_cons_succ] at hcb hc0 hc1
    have HONE := Lib.hid hone
    have HC := Lib.hid hC
    have HFP := Lib.hid hFp
    clear hone hC hco hFp hz
    gi_wp2_with fail
    refine (CallsIn.inRound l (callsIn_wide.2 HONE.out)).mono ?_
    rintro e W' ⟨rfl, hR', hX', hF'⟩
    have he' := hF'.at HC.out.e (show ¬ (w1.heap.size = g ∨ w1.heap.size = w1.heap.size + 1) by omega)
    have s0 := blk_cell he' 0
    have s1 := blk_frozen he' 0
    simp only [List.getElem?_toArray, List.getElem?_cons_zero] at s0
    have hS2 : Fr (fun i => i = w1.heap.size) W' (W'.setCell ⟨w1.heap.size, 0, none⟩ (.int .i64 c)) := Fr.set (S := fun i => i = w1.heap.size) (Fr.refl _ _) _ _ (fun _ => rfl)
    have he2 := blk_set he' 0 (.int .i64 c)
    have hall : Fr (fun i => (i = g ∨ i = w1.heap.size + 1) ∨ i = w1.heap.size) W (W'.setCell ⟨w1.heap.size, 0, none⟩ (.int .i64 c)) := (hF'.mono (fun i _ h => .inl h)).trans hS2 (fun i _ h => .inr h)
    have hC2 : DecC w g base v bs p m w1.heap.size (foldR (rest bs p) wd (pre ++ [(kk, o)])) (W'.setCell ⟨w1.heap.size, 0, none⟩ (.int .i64 c)) := by
      rw [HS.out, HST.out]
      refine ⟨?_, ?_, by simpa using he2, hall.at HC.out.r (by omega), hall.at HC.out.b (by omega), HC.out.fr.trans hall (fun i hi h => by omega)⟩
      · have := hR'.fr hS2 (by omega) (fun r hr h => by have := HV.out r hr; omega)
        rw [Nat.add_assoc] at this
        exact this
      · have := hS2.at hX' (by omega)
        rw [this]
        unfold xset
        rcases ho with rfl | rfl <;> rfl
    have hcode : (foldR (rest bs p) wd (pre ++ [(kk, o)])).2.2.1 = c := by rw [HS.out, HST.out]
    have hk2 : Kept2 w4.heap.size W (W'.setCell ⟨w1.heap.size, 0, none⟩ (.int .i64 c)) := ⟨hall.block _ (by omega) (by omega), hall.block _ (by omega) (by omega)⟩
    have hk3 : KpO (fun i => i = bb ∨ i = bs') W (W'.setCell ⟨w1.heap.size, 0, none⟩ (.int .i64 c)) := KpO.of_fr hall (fun i hi h => by omega)
    have HC2 := Lib.hid hC2
    have HCO := Lib.hid hcode
    have HK2 := Lib.hid hk2
    have HK3 := Lib.hid hk3
    clear hC2 hcode hk2 hk3 hall hS2 hR' hX' hF' he' HC HONE he2
    by_cases hc : c = 0
    · have hcn : ((c : Int) != 0) = false := by simp [hc]
      have HCC := Lib.hid hc
      clear hc
      gi_wp2
      refine ⟨HK2.out, HK3.out, HC2.out, fun pre' hp' => ?_⟩
      rcases List.prefix_concat_iff.1 hp' with rfl | hp'
      · rw [HCO.out, HCC.out]
      · exact HZ.out _ hp'
    · have hcn : ((c : Int) != 0) = true := by rw [bne_iff_ne]; omega
      have HCC := Lib.hid hc
      clear hc
      gi_wp2
      refine ⟨HK2.out, HK3.out, rfl, pre, (kk, o), rfl, HC2.out, by rw [HFP.out], by rw [HCO.out]; exact HCC.out⟩
  case hdone =>
    rintro xs W rfl ⟨hC, hz⟩ hD
    have hd := decO_all (ka m) (kb m) (rest bs p) wd (fun pre hp => hz pre hp)
    have he0 := hz _ List.prefix_rfl
    have HDD : Hid (dR = (((m : Int), (foldR (rest bs p) wd (opsL (ka m) (kb m))).1, (foldR (rest bs p) wd (opsL (ka m) (kb m))).2.1), 0, (foldR (rest bs p) wd (opsL (ka m) (kb m))).2.2.2)) := Lib.hid (by
      have := HD.out
      rw [this, hd]; rfl)
    generalize foldR (rest bs p) wd (opsL (ka m) (kb m)) = F at *
    obtain ⟨Fa, Fb, Fe, Fw⟩ := F
    simp only at he0 HDD
    subst he0
    have ye := blk_cell hC.e 0
    have x0 := blk_cell hC.x 0
    have x1 := blk_cell hC.x 1
    have x2 := blk_cell hC.x 2
    have y0 := blk_cell hC.r 0
    have y1 := blk_cell hC.r 1
    have y2 := blk_cell hC.r 2
    have f0 := blk_frozen hC.r 0
    have f1 := blk_frozen hC.r 1
    have f2 := blk_frozen hC.r 2
    simp only [List.getElem?_toArray, List.getElem?_cons_zero, List.getElem?_cons_succ] at ye x0 x1 x2 y0 y1 y2
    obtain ⟨z1, z2⟩ := set3 (u0 := .int .i64 m) (u1 := .int .i64 Fa) (u2 := .int .i64 Fb) hC.r
    have z3 := hC.reel.fr23 hC.r z2
    have z4 : Fr (fun i => i = g) w _ := hC.fr.trans z2 (fun i hi h => by omega)
    have z5 := z2.at hD (by omega)
    have Z1 := Lib.hid z1
    have Z3 := Lib.hid z3
    have Z4 := Lib.hid z4
    have Z5 := Lib.hid z5
    have hd4 : w4.heap.size ≠ w.heap.size + 1 := by omega
    clear z1 z2 z3 z4 z5 hC hz hD hd
    gi_wp2
    refine ⟨by simp, .inl ⟨_, _, rfl, run_takeDeferred Z5.out, ?_⟩⟩
    refine ⟨_, results_ct rfl _ _ _ (w.heap.size + 1) _ rfl (run_loadVar_row _ _ 23 23 _ (0, 0) _ ((World.putObj_heap_other (by omega)).trans Z1.out) Tryz.underlying23 rfl (by kernel_rfl)), ?_⟩
    rw [HDD.out]
    exact ⟨rfl, Z3.out.fr (Fr.putObj _ _ _) (by omega) (fun r hr h => by have := HV.out r hr; omega), Z4.out.trans (Fr.putObj _ _ _) (fun i hi h => by omega)⟩
  case hstop =>
    rintro c pre W hpre ⟨rfl, pre0, x, rfl, hC, h0, h1⟩ hD
    have hd := decO_some (ka m) (kb m) (rest bs p) wd pre0 x hpre h0 h1
    have HDD : Hid (dR = ((0, 0, 0), (foldR (rest bs p) wd (pre0 ++ [x])).2.2.1, (foldR (rest bs p) wd (pre0 ++ [x])).2.2.2)) := Lib.hid (by
      have := HD.out
      rw [this]
      unfold decR2
      rw [hd]
      exact if_pos h1)
    generalize foldR (rest bs p) wd (pre0 ++ [x]) = F at *
    obtain ⟨Fa, Fb, Fe, Fw⟩ := F
    simp only at h1 HDD
    have hcn : ((Fe : Int) != 0) = true := by rw [bne_iff_ne]; omega
    have ye := blk_cell hC.e 0
    have y0 := blk_cell hC.r 0
    have y1 := blk_cell hC.r 1
    have y2 := blk_cell hC.r 2
    have f0 := blk_frozen hC.r 0
    have f1 := blk_frozen hC.r 1
    have f2 := blk_frozen hC.r 2
    simp only [List.getElem?_toArray, List.getElem?_cons_zero, List.getElem?_cons_succ] at ye y0 y1 y2
    obtain ⟨z1, z2⟩ := set3 (u0 := .int .i64 0) (u1 := .int .i64 0) (u2 := .int .i64 0) hC.r
    have z3 := hC.reel.fr23 hC.r z2
    have z4 : Fr (fun i => i = g) w _ := hC.fr.trans z2 (fun i hi h => by omega)
    have z5 := z2.at hD (by omega)
    have Z1 := Lib.hid z1
    have Z3 := Lib.hid z3
    have Z4 := Lib.hid z4
    have Z5 := Lib.hid z5
    have hd4 : w4.heap.size ≠ w.heap.size + 1 := by omega
    have hge : w.heap.size + 1 ≠ w1.heap.size := by omega
    clear z1 z2 z3 z4 z5 hC hD hd h0 h1 hpre
    gi_wp2
    gi_region
    generalize ((W.setCell ⟨w.heap.size + 1, 0, none⟩ (.int .i64 0)).setCell ⟨w.heap.size + 1, 1, none⟩ (.int .i64 0)).setCell ⟨w.heap.size + 1, 2, none⟩ (.int .i64 0) = w6 at *
    clear ye y0 y1 y2 f0 f1 f2
    have Z1' := Lib.hid (show w6.drew.heap[w.heap.size + 1]? = _ from Z1.out)
    have Z5' := Lib.hid (show w6.drew.heap[w4.heap.size]? = _ from Z5.out)
    gi_wp2
    refine ⟨by simp, .inl ⟨_, _, rfl, run_takeDeferred Z5'.out, ?_⟩⟩
    refine ⟨_, results_ct rfl _ _ _ (w.heap.size + 1) _ rfl (run_loadVar_row _ _ 23 23 _ (0, 0) _ ((World.putObj_heap_other (by omega)).trans Z1'.out) Tryz.underlying23 rfl (by kernel_rfl)), ?_⟩
    rw [HDD.out]
    exact ⟨rfl, (Z3.out.below (below_drew (Below.refl _ _))).fr (Fr.putObj _ _ _) (by omega) (fun r hr h => by have := HV.out r hr; omega), Z4.out.drew.trans (Fr.putObj _ _ _) (fun i hi h => by omega)⟩
theorem Decode15_any (g base : Nat) (v : Value) (bs : List Int) (p : Nat) (w : World) (hR : ReelIs w g base v bs p) :
    Calls Tryz.prog 30 #[.pointer (some ⟨g, 0, none⟩)] w (DecPost w g base v bs p (decR (rest bs p))) := by
  by_cases h : (readN (rest bs p) 29).2.1 = 0
  · exact Decode15_ok g base v bs p w hR h
  · exact Decode15_bad g base v bs p w hR h
end Go.Proofs.YtamagdnlicnefaaGreatDoor
