/- Make: another object, or an error. -/
import Derived.Test.YtnomjjhocblkkaaHk
import Derived.StillTailTactics
namespace Go.Proofs.Ytnomjjhocblkkaa
open Go.RowKit Go.Shelf Go.Proofs.YtnomjjhocblkkaaW.PrintWords Go.Proofs.YtnomjjhocblkkaaW.PrintLast Go.Proofs.YtnomjjhocblkkaaW.PrintMore
open Go.Proofs.Ytnomjjhocblkkaa.PHeapSound

set_option maxRecDepth 100000 in
set_option maxHeartbeats 2000000 in
theorem Make_any {base : Nat} {w : World} {g m : Nat} {H : HM} {R : Nat → Prop} (h : HOwn base w g m H R) (hf : HFit H) (n : Int) :
    Calls Try.prog 11 #[.pointer (some ⟨g, 0, none⟩), .int .i64 n] w fun e w' => e = .returned (.tuple #[.agg #[.int .i64 (makeV H n).1, .int .i64 (makeV H n).2], .int .i64 (makeC H n)]) ∧
      (∃ R', HOwn base w' g m (makeH H n) R' ∧ ∀ i, R' i → R i ∨ w.heap.size ≤ i) ∧ Fr (fun k => k = g) w w' := by
  have hB1 : Below w.heap.size w (w.alloc (.cells #[.int .i64 0, .int .i64 0] 32)) := (Below.refl w.heap.size w).alloc (Nat.le_refl _) _
  have HB1 := Lib.hid hB1
  have HO1 := Lib.hid (h.below hB1)
  have HE1 := Lib.hid (World.alloc_heap_new w (.cells #[.int .i64 0, .int .i64 0] 32))
  have HG := Lib.hid h.glt
  have HO0 := Lib.hid h
  have HF := Lib.hid hf
  have hN := none_any (h.below hB1)
  have HN := Lib.hid hN
  obtain ⟨S, sc, O, oc, hl1, hl2, hC, c0, c1, c2, c3, hON, hOld⟩ := (h.below hB1).forMake
  have HON := Lib.hid hON
  have HOld := Lib.hid hOld
  clear h hB1 hf hN hON hOld
  by_cases k1 : n < 0
  · have hv : makeC H n = 150 ∧ makeV H n = (0, 0) ∧ makeH H n = H := by unfold makeV makeH makeC; simp [k1]
    have HV := Lib.hid hv
    have k1' : decide (n < 0) = true := by simpa using k1
    clear hv hC hl1 hl2
    go_enter Try.func11, Try.ntmps11
    go_wp2_with (go_at_call 35; refine HN.out.mono ?_; rintro e w2 ⟨rfl, rfl⟩)
    have y0 := blk_cell HE1.out 0
    have y1 := blk_cell HE1.out 1
    simp only [List.getElem?_toArray, List.getElem?_cons_zero, List.getElem?_cons_succ] at y0 y1
    refine bodyPost_ret (v := .tuple #[.agg #[.int .i64 0, .int .i64 0], .int .i64 150]) (by simp [results, Try.results11, go_sem, y0, y1]) rfl ?_
    exact ⟨by rw [HV.out.1, HV.out.2.1], ⟨R, by rw [HV.out.2.2]; exact HO0.out.below HB1.out, fun i hi => .inl hi⟩, Fr.of_below HB1.out⟩

  by_cases k2 : (H.sh.length : Int) ≤ n
  · have hv : makeC H n = 150 ∧ makeV H n = (0, 0) ∧ makeH H n = H := by unfold makeV makeH makeC; simp [k1, k2]
    have HV := Lib.hid hv
    clear hv hC hl1 hl2
    go_enter Try.func11, Try.ntmps11
    go_wp2_with (go_at_call 35; refine HN.out.mono ?_; rintro e w2 ⟨rfl, rfl⟩)
    have y0 := blk_cell HE1.out 0
    have y1 := blk_cell HE1.out 1
    simp only [List.getElem?_toArray, List.getElem?_cons_zero, List.getElem?_cons_succ] at y0 y1
    refine bodyPost_ret (v := .tuple #[.agg #[.int .i64 0, .int .i64 0], .int .i64 150]) (by simp [results, Try.results11, go_sem, y0, y1]) rfl ?_
    exact ⟨by rw [HV.out.1, HV.out.2.1], ⟨R, by rw [HV.out.2.2]; exact HO0.out.below HB1.out, fun i hi => .inl hi⟩, Fr.of_below HB1.out⟩

  obtain ⟨ae, A, c, rfl, e2, hAc, _⟩ := at_L1 hC n (by omega) (by omega)
  obtain ⟨j, rfl⟩ : ∃ j : Nat, n = (j : Int) := ⟨n.toNat, by omega⟩
  rw [Int.toNat_natCast] at e2
  have HQ := Lib.hid HF.out.quota
  have HU := Lib.hid HF.out.used
  obtain ⟨L, hL⟩ : ∃ L : Nat, (rd_L1 H.sh (j : Int)).length = L := ⟨_, rfl⟩
  have k2' : (j : Int) < (H.sh.length : Int) := by omega
  have hsm := HF.out.small
  have hwr : wrap64 (H.quota - H.used) = H.quota - H.used := by have := HQ.out; have := HU.out; unfold wrap64; omega
  have hLs : L ≤ 16 := by
    rw [← hL]
    refine HF.out.row _ ?_
    unfold rd_L1
    rw [List.getD_eq_getElem?_getD, Int.toNat_natCast, List.getElem?_eq_getElem (by omega)]
    exact List.getElem_mem _
  have hwu : wrap64 (H.used + (L : Int)) = H.used + (L : Int) := by have := HQ.out; have := HU.out; unfold wrap64; omega
  by_cases k3 : H.quota - H.used < (L : Int)
  · have hv : makeC H (j : Int) = 151 ∧ makeV H (j : Int) = (0, 0) ∧ makeH H (j : Int) = H := by unfold makeV makeH makeC; rw [hL]; simp [k1, k2, k3]
    have HV := Lib.hid hv
    rw [hL] at e2
    clear hv hC hl2 hL
    go_enter Try.func11, Try.ntmps11
    go_wp2_with (go_at_call 35; refine HN.out.mono ?_; rintro e w2 ⟨rfl, rfl⟩)
    go_quiet (fail)
    go_wp2
    · have HE2 := Lib.hid (((pw_below_drewN (Below.refl _ _) nq).block _ (blk_lt HE1.out)).trans HE1.out)
      have F := blk_set HE2.out 0 (.int .i64 (0))
      have G := blk_set F 1 (.int .i64 (0))
      simp only [List.setIfInBounds_toArray, List.set_cons_zero, List.set_cons_succ] at G
      have y0 := blk_cell G 0
      have y1 := blk_cell G 1
      simp only [List.getElem?_toArray, List.getElem?_cons_zero, List.getElem?_cons_succ] at y0 y1
      refine bodyPost_ret (v := .tuple #[.agg #[.int .i64 0, .int .i64 0], .int .i64 151]) (by simp [results, Try.results11, go_sem, y0, y1]) rfl ?_
      have hbe := ((pw_below_drewN HB1.out nq).setCell (p := ⟨w.heap.size, 0, none⟩) (by simp) (.int .i64 0)).setCell (p := ⟨w.heap.size, 1, none⟩) (by simp) (.int .i64 0)
      exact ⟨by rw [HV.out.1, HV.out.2.1], ⟨R, by rw [HV.out.2.2]; exact HO0.out.below hbe, fun i hi => .inl hi⟩, Fr.of_below hbe⟩

  · have hv : makeC H (j : Int) = 0 ∧ makeV H (j : Int) = (2, (H.objs.length : Int) + 1) ∧ makeH H (j : Int) = { H with used := H.used + L, objs := H.objs ++ [(j : Int)] } := by
      have e : makeC H (j : Int) = 0 := by unfold makeC; rw [hL, if_neg (by omega), if_neg k3]
      unfold makeV makeH; rw [if_pos e, if_pos e, hL]; exact ⟨e, rfl, rfl⟩
    have HV := Lib.hid hv
    rw [hL] at e2
    obtain ⟨i0, hi0, hz0, hz1, hz2⟩ := info_parts hinfo3
    have hfew := HF.out.few
    have HLT := Lib.hid (fun i hi => HO0.out.lt i hi)
    have hgs : g ≠ w.heap.size := by have := HG.out.1; omega
    have hgs2 : w.heap.size ≠ g := Ne.symm hgs
    clear hv hC hL
    go_enter Try.func11, Try.ntmps11
    go_wp2_with (go_at_call 35; refine HN.out.mono ?_; rintro e w2 ⟨rfl, rfl⟩)
    go_quiet (fail)
    go_wp2
    have hb3 := pw_below_drewN (Below.refl (w.alloc (.cells #[.int .i64 0, .int .i64 0] 32)).heap.size (w.alloc (.cells #[.int .i64 0, .int .i64 0] 32))) nq
    generalize hw3 : (w.alloc (.cells #[.int .i64 0, .int .i64 0] 32)).drewN nq = w3 at *
    have HB4 := Lib.hid (below_drew (below_then HB1.out HB1.out.size hb3))
    have HO4 := Lib.hid (HO1.out.below (below_drew hb3))
    have HE4 := Lib.hid (((below_drew hb3).block _ (blk_lt HE1.out)).trans HE1.out)
    have HB5 := Lib.hid (below_drew hb3)
    have z0 := pw_cell_below (below_drew hb3) c0
    have z2 := pw_cell_below (below_drew hb3) c2
    have z3 := pw_cell_below (below_drew hb3) c3
    have ze := pw_cell_below (below_drew hb3) e2
    have zf := HO4.out.frozen 2
    clear hb3 hw3 c0 c1 c2 c3 e2
    go_still_tail 12, (by kernel_rfl)
    change wpList _ _ _ _ _ w3.drew
    generalize w3.drew = w5 at *
    go_wp2_with (first | (go_at_call 36; refine (Clip_any O _ _ hl2 _).mono ?_; rintro e w7 ⟨rfl, rfl⟩) | ((with_reducible refine gate_builtin (b := .append) (xs := #[.tmp 63, .tmp 65]) rfl ?_); at_builtin; refine Wrapped.h ?_))
    refine Wrapped.mk ?_
    refine wpList_append_grows _ rfl (.tmp 63) (.tmp 65) 38 rfl 3 i0 (.int .i64 0) 1 8 Try.underlying38 hi0 hz0 hz1 hz2 rfl (by decide) O H.objs.length H.objs.length (nums .i64 H.objs) rfl (fun e => ⟨HON.out e, HON.out e⟩) (by simp [nums]) (fun b hb j' u hj => HOld.out _ HB5.out _ _ b hb j' u hj) ⟨_, 0, none⟩ 1 1 [.int .i64 (j : Int)] rfl rfl (one_set _ _ _ _ _) (by intro u hu; simp at hu; subst hu; rfl) (by omega) (by unfold maxLen; omega) (by omega) ?_
    intro v' w8 hown hgrow
    obtain ⟨A8, c8, rfl⟩ := own_slice hown
    have hF8 := ((((Fr.of_below HB4.out).set (S := fun k => k = g) ⟨g, 2, none⟩ (.int .i64 (H.used + (L : Int))) (fun _ => rfl))).trans (T := fun _ => False) (Fr.of_below (below_alloc (Below.refl _ _) (.cells #[.int .i64 (j : Int)] 3))) (fun _ _ h => h.elim)).trans (T := fun _ => False) (Fr.grown hgrow (fun _ _ h => by cases h)) (fun _ _ h => h.elim)
    have HF8 := Lib.hid hF8
    have HO8 := Lib.hid (((HO4.out.setUsed (H.used + (L : Int))).below (below_alloc (Below.refl _ _) (.cells #[.int .i64 (j : Int)] 3))).fr (S := fun _ => False) (Fr.grown hgrow (fun _ _ h => by cases h)) (fun h => h) (fun h => h) (fun _ _ h => h))
    have E8 := (hgrow.block w.heap.size (by have := HB4.out.size; have := blk_lt HE4.out; simp; omega) (by simp)).trans ((World.alloc_heap_old' _ _ (by have := blk_lt HE4.out; simpa using this)).trans ((Below.heap_setCell _ _ _ _ hgs2).trans HE4.out))
    have HE8 := Lib.hid E8
    have x0 := blk_cell E8 0
    have x1 := blk_cell E8 1
    have xf0 := blk_frozen E8 0
    have xf1 := blk_frozen E8 1
    have xf := HO8.out.frozen 3
    obtain ⟨_, _, _, _, _, _, _, _, _, _, x3, _, _⟩ := HO8.out.forMake
    have HW8 := Lib.hid hown
    have HL8 : Hid (w.heap.size < (w5.setCell ⟨g, 2, none⟩ (.int .i64 (H.used + (L : Int)))).heap.size) := Lib.hid (by have := blk_lt HE4.out; simpa using this)
    simp only [List.getElem?_toArray, List.getElem?_cons_zero, List.getElem?_cons_succ] at x0 x1
    clear E8 hF8 hgrow hown z0 z2 z3 ze
    go_wp2
    have hrow : w8.ownsRow ((w5.setCell ⟨g, 2, none⟩ (.int .i64 (H.used + (L : Int)))).alloc (.cells #[.int .i64 (j : Int)] 3)).heap.size 3 1 (.slice A8 (H.objs.length + 1) c8) (H.objs ++ [(j : Int)]).length (nums .i64 (H.objs ++ [(j : Int)])) := by
      have h9 := HW8.out
      simpa [nums] using h9
    have hlo : w.heap.size < ((w5.setCell ⟨g, 2, none⟩ (.int .i64 (H.used + (L : Int)))).alloc (.cells #[.int .i64 (j : Int)] 3)).heap.size := by have h9 := HL8.out; rw [World.size_alloc]; omega
    have hgm := HG.out
    have HO9 := HO8.out.setObjs hrow (Nat.lt_trans hgm.1 hlo) (Nat.lt_trans hgm.2 hlo)
    have hF9 : Fr (fun i => i = w.heap.size) (w8.setCell ⟨g, 3, none⟩ (.slice A8 (H.objs.length + 1) c8)) (((w8.setCell ⟨g, 3, none⟩ (.slice A8 (H.objs.length + 1) c8)).setCell ⟨w.heap.size, 0, none⟩ (.int .i64 2)).setCell ⟨w.heap.size, 1, none⟩ (.int .i64 ((H.objs.length : Int) + 1))) :=
      ((Fr.refl (fun i => i = w.heap.size) _).set ⟨w.heap.size, 0, none⟩ (.int .i64 2) (fun _ => rfl)).set ⟨w.heap.size, 1, none⟩ (.int .i64 ((H.objs.length : Int) + 1)) (fun _ => rfl)
    have HO10 := HO9.fr hF9 hgs (Nat.ne_of_lt hgm.2) (fun i hi e => hi.elim (fun h1 => absurd (HLT.out i h1) (by rw [e]; exact Nat.lt_irrefl _)) (fun h1 => absurd h1.1 (by rw [e]; exact Nat.not_le.2 hlo)))
    have F := blk_set ((Below.heap_setCell w8 ⟨g, 3, none⟩ (.slice A8 (H.objs.length + 1) c8) w.heap.size hgs2).trans HE8.out) 0 (.int .i64 2)
    have G := blk_set F 1 (.int .i64 ((H.objs.length : Int) + 1))
    simp only [List.setIfInBounds_toArray, List.set_cons_zero, List.set_cons_succ] at G
    have y0 := blk_cell G 0
    have y1 := blk_cell G 1
    simp only [List.getElem?_toArray, List.getElem?_cons_zero, List.getElem?_cons_succ] at y0 y1
    refine bodyPost_ret (v := .tuple #[.agg #[.int .i64 2, .int .i64 ((H.objs.length : Int) + 1)], .int .i64 0]) (by simp [results, Try.results11, go_sem, y0, y1]) rfl ?_
    exact ⟨by rw [HV.out.1, HV.out.2.1], by rw [HV.out.2.2]; exact ⟨_, HO10, fun i hi => hi.elim .inl (fun h1 => .inr (Nat.le_trans (Nat.le_of_lt hlo) h1.1))⟩, (HF8.out.set (S := fun k => k = g) ⟨g, 3, none⟩ _ (fun _ => rfl)).trans hF9 (fun i hi e => absurd e (Nat.ne_of_lt hi))⟩
end Go.Proofs.Ytnomjjhocblkkaa
