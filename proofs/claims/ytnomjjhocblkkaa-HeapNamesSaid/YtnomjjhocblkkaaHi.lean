/- Get: a cell's value, what is wrong with it, or an error. -/
import Derived.Test.YtnomjjhocblkkaaHh
namespace Go.Proofs.Ytnomjjhocblkkaa
open Go.RowKit Go.Shelf Go.Proofs.YtnomjjhocblkkaaW.PrintWords Go.Proofs.YtnomjjhocblkkaaW.PrintLast Go.Proofs.YtnomjjhocblkkaaW.PrintMore
open Go.Proofs.Ytnomjjhocblkkaa.PHeapSound

/-- A type that a cell may have. -/
def cellT (t : Int) : Bool := decide (1 ≤ t) && decide (t < 4)
/-- What Get answers. -/
def getR (H : HM) (t n i tt : Int) : (Int × Int) × Int × Int :=
  if readyC H t n = 0 then (if cellT tt then (if wrongC H n i tt = 0 then (getC H n i, 0, 0) else ((0, 0), wrongC H n i tt, 0)) else ((0, 0), 0, 150)) else ((0, 0), 0, 150)
def getV (r : (Int × Int) × Int × Int) : Value := .tuple #[.agg #[.int .i64 r.1.1, .int .i64 r.1.2], .int .i64 r.2.1, .int .i64 r.2.2]

theorem known_any (t : Int) (r : Bool) (hr : r = (decide (1 ≤ t) && decide (t < 5))) (w : World) : Calls Try.prog 17 #[.int .i64 t] w fun e w' => e = .returned (.bool r) ∧ ∃ n, w' = w.drewN n :=
  (value_Known.calls t r w (by subst hr; unfold value_Known.f; by_cases h : 1 ≤ t <;> simp [h])).mono fun _ _ ⟨h1, ⟨h2⟩⟩ => ⟨h1, h2⟩

theorem wrongC_zero {H : HM} {n i t : Int} (h : wrongC H n i t = 0) : n ≠ 0 ∧ 0 ≤ i ∧ i < (rowOf H n).length ∧ rd (rowOf H n) i = t := by
  unfold wrongC at h
  split at h
  · simp at h
  · split at h
    · simp at h
    · split at h
      · simp at h
      · rename_i h0 h1 h2
        simp [trB] at h0 h1 h2
        exact ⟨h0, h1.1, by omega, h2⟩

theorem get_agg {base : Nat} {w : World} {g m : Nat} {H : HM} {R : Nat → Prop} (h : HOwn base w g m H R) (hf : HFit H) (n i : Int) (h1 : 1 ≤ n) (h2 : n ≤ H.objs.length) (h3 : 0 ≤ i) (h4 : i < (rowOf H n).length) :
    Calls Try.prog 39 #[.pointer (some ⟨g, 0, none⟩), .agg #[.int .i64 2, .int .i64 n], .int .i64 i] w fun e w' => e = .returned (.agg #[.int .i64 (getC H n i).1, .int .i64 (getC H n i).2]) ∧ Below w.heap.size w w' :=
  get_any h hf n i h1 h2 h3 h4

set_option maxRecDepth 100000 in
set_option maxHeartbeats 2000000 in
theorem Get_any {base : Nat} {w : World} {g m : Nat} {H : HM} {R : Nat → Prop} (h : HOwn base w g m H R) (hf : HFit H) (t n i tt : Int) :
    Calls Try.prog 15 #[.pointer (some ⟨g, 0, none⟩), .agg #[.int .i64 t, .int .i64 n], .int .i64 i, .int .i64 tt] w fun e w' => e = .returned (getV (getR H t n i tt)) ∧ Below w.heap.size w w' := by
  have hB1 : Below w.heap.size w ((w.alloc (.cells #[.int .i64 t, .int .i64 n] 32)).alloc (.cells #[.int .i64 0, .int .i64 0] 32)) := ((Below.refl w.heap.size w).alloc (Nat.le_refl _) _).alloc (by simp) _
  have HB1 := Lib.hid hB1
  have HO1 := Lib.hid (h.below hB1)
  have e6 := World.alloc_heap_new (w.alloc (.cells #[.int .i64 t, .int .i64 n] 32)) (.cells #[.int .i64 0, .int .i64 0] 32)
  rw [World.size_alloc] at e6
  have HE1 := Lib.hid e6
  have k6 := (World.alloc_heap_old' (w.alloc (.cells #[.int .i64 t, .int .i64 n] 32)) (.cells #[.int .i64 0, .int .i64 0] 32) (i := w.heap.size) (by simp)).trans (World.alloc_heap_new w _)
  have HK1 := Lib.hid k6
  have HF := Lib.hid hf
  have hr := ready_any (h.below hB1) t n
  obtain ⟨kn, hkn⟩ : ∃ kn : Bool, kn = (decide (1 ≤ tt) && decide (tt < 5)) := ⟨_, rfl⟩
  have HKn := Lib.hid (fun w => known_any tt kn hkn w)
  clear h hB1 e6 k6 hf
  rcases readyC_cases H t n with he | ⟨he, rfl, h1, h2⟩
  · have hv : getR H t n i tt = ((0, 0), 0, 150) := by unfold getR; rw [if_neg (by omega)]
    have HV := Lib.hid hv
    rw [he] at hr
    have HR := Lib.hid hr
    clear hr he hv hkn
    go_enter Try.func15, Try.ntmps15
    go_wp2_with (go_at_call 37; refine HR.out.mono ?_; rintro e w2 ⟨rfl, hb⟩; have HB2 := Lib.hid (below_then HB1.out HB1.out.size hb); have HO2 := Lib.hid (HO1.out.below hb); have E := (hb.block (w.heap.size + 1) (blk_lt HE1.out)).trans HE1.out; have HE2 := Lib.hid E; have K := (hb.block w.heap.size (blk_lt HK1.out)).trans HK1.out; have HK2 := Lib.hid K; have a0 := blk_cell E 0; have a1 := blk_cell E 1; have a2 := blk_frozen E 0; have a3 := blk_frozen E 1; have b0 := blk_cell K 0; have b1 := blk_cell K 1; simp only [List.getElem?_toArray, List.getElem?_cons_zero, List.getElem?_cons_succ] at a0 a1 b0 b1; clear E K hb)
    have F := blk_set HE2.out 0 (.int .i64 (0))
    have G := blk_set F 1 (.int .i64 (0))
    simp only [List.setIfInBounds_toArray, List.set_cons_zero, List.set_cons_succ] at G
    have y0 := blk_cell G 0
    have y1 := blk_cell G 1
    simp only [List.getElem?_toArray, List.getElem?_cons_zero, List.getElem?_cons_succ] at y0 y1
    refine bodyPost_ret (v := .tuple #[.agg #[.int .i64 (0), .int .i64 (0)], .int .i64 (0), .int .i64 (150)]) (by simp [results, Try.results15, go_sem, y0, y1]) rfl ⟨by rw [HV.out]; rfl, (HB2.out.setCell (by simp) _).setCell (by simp) _⟩
  · rw [he] at hr
    have HR := Lib.hid hr
    by_cases hc : cellT tt = true
    · have hk1 : kn = true := by rw [hkn]; unfold cellT at hc; simp at hc ⊢; omega
      have hk4 : (tt == 4) = false := by unfold cellT at hc; simp at hc ⊢; omega
      subst hk1
      by_cases hw : wrongC H n i tt = 0
      · have hv : getR H 2 n i tt = (getC H n i, 0, 0) := by unfold getR; rw [if_pos he, if_pos hc, if_pos hw]
        have HV := Lib.hid hv
        obtain ⟨w1', w2', w3', _⟩ := wrongC_zero hw
        have HWr := Lib.hid (fun (W : World) (ho : HOwn base W g m H R) => wrong_any ho HF.out n i tt h1 h2)
        rw [hw] at HWr
        have HG := Lib.hid (fun (W : World) (ho : HOwn base W g m H R) => get_agg ho HF.out n i (by omega) h2 w2' w3')
        obtain ⟨p, hp⟩ : ∃ p, getC H n i = p := ⟨_, rfl⟩
        rw [hp] at HG HV
        clear hr he hv hkn hc hw hp
        go_enter Try.func15, Try.ntmps15
        go_wp2_with (first | (go_at_call 37; refine HR.out.mono ?_; rintro e w2 ⟨rfl, hb⟩; have HB2 := Lib.hid (below_then HB1.out HB1.out.size hb); have HO2 := Lib.hid (HO1.out.below hb); have E := (hb.block (w.heap.size + 1) (blk_lt HE1.out)).trans HE1.out; have HE2 := Lib.hid E; have K := (hb.block w.heap.size (blk_lt HK1.out)).trans HK1.out; have HK2 := Lib.hid K; have a0 := blk_cell E 0; have a1 := blk_cell E 1; have a2 := blk_frozen E 0; have a3 := blk_frozen E 1; have b0 := blk_cell K 0; have b1 := blk_cell K 1; simp only [List.getElem?_toArray, List.getElem?_cons_zero, List.getElem?_cons_succ] at a0 a1 b0 b1; clear E K hb) | (go_at_call 17; refine (HKn.out w2).mono ?_; rintro e w3 ⟨rfl, mk, hmk⟩; have hb : Below w2.heap.size w2 w3 := hmk ▸ pw_below_drewN (Below.refl w2.heap.size w2) mk; clear hmk; have HB3 := Lib.hid (below_then HB2.out HB2.out.size hb); have HO3 := Lib.hid (HO2.out.below hb); have E := (hb.block (w.heap.size + 1) (blk_lt HE2.out)).trans HE2.out; have HE3 := Lib.hid E; have K := (hb.block w.heap.size (blk_lt HK2.out)).trans HK2.out; have HK3 := Lib.hid K; have a0 := blk_cell E 0; have a1 := blk_cell E 1; have a2 := blk_frozen E 0; have a3 := blk_frozen E 1; have b0 := blk_cell K 0; have b1 := blk_cell K 1; simp only [List.getElem?_toArray, List.getElem?_cons_zero, List.getElem?_cons_succ] at a0 a1 b0 b1; clear E K hb) | (go_at_call 38; refine (HWr.out _ HO3.out).mono ?_; rintro e w4 ⟨rfl, hb⟩; have HB4 := Lib.hid (below_then HB3.out HB3.out.size hb); have HO4 := Lib.hid (HO3.out.below hb); have E := (hb.block (w.heap.size + 1) (blk_lt HE3.out)).trans HE3.out; have HE4 := Lib.hid E; have K := (hb.block w.heap.size (blk_lt HK3.out)).trans HK3.out; have HK4 := Lib.hid K; have a0 := blk_cell E 0; have a1 := blk_cell E 1; have a2 := blk_frozen E 0; have a3 := blk_frozen E 1; have b0 := blk_cell K 0; have b1 := blk_cell K 1; simp only [List.getElem?_toArray, List.getElem?_cons_zero, List.getElem?_cons_succ] at a0 a1 b0 b1; clear E K hb) | (go_at_call 39; refine (HG.out _ HO4.out).mono ?_; rintro e w5 ⟨rfl, hb⟩; have HB5 := Lib.hid (below_then HB4.out HB4.out.size hb); have HO5 := Lib.hid (HO4.out.below hb); have E := (hb.block (w.heap.size + 1) (blk_lt HE4.out)).trans HE4.out; have HE5 := Lib.hid E; have K := (hb.block w.heap.size (blk_lt HK4.out)).trans HK4.out; have HK5 := Lib.hid K; have a0 := blk_cell E 0; have a1 := blk_cell E 1; have a2 := blk_frozen E 0; have a3 := blk_frozen E 1; have b0 := blk_cell K 0; have b1 := blk_cell K 1; simp only [List.getElem?_toArray, List.getElem?_cons_zero, List.getElem?_cons_succ] at a0 a1 b0 b1; clear E K hb))
        have F := blk_set HE5.out 0 (.int .i64 (p.1))
        have G := blk_set F 1 (.int .i64 (p.2))
        simp only [List.setIfInBounds_toArray, List.set_cons_zero, List.set_cons_succ] at G
        have y0 := blk_cell G 0
        have y1 := blk_cell G 1
        simp only [List.getElem?_toArray, List.getElem?_cons_zero, List.getElem?_cons_succ] at y0 y1
        refine bodyPost_ret (v := .tuple #[.agg #[.int .i64 (p.1), .int .i64 (p.2)], .int .i64 (0), .int .i64 (0)]) (by simp [results, Try.results15, go_sem, y0, y1]) rfl ⟨by rw [HV.out]; rfl, (HB5.out.setCell (by simp) _).setCell (by simp) _⟩
      · have hv : getR H 2 n i tt = ((0, 0), wrongC H n i tt, 0) := by unfold getR; rw [if_pos he, if_pos hc, if_neg hw]
        have HV := Lib.hid hv
        have HWr := Lib.hid (fun (W : World) (ho : HOwn base W g m H R) => wrong_any ho HF.out n i tt h1 h2)
        obtain ⟨c, hcc⟩ : ∃ c, wrongC H n i tt = c := ⟨_, rfl⟩
        rw [hcc] at HWr HV hw
        have hc0 : (c != 0) = true := by simpa using hw
        clear hr he hv hkn hc hw hcc
        go_enter Try.func15, Try.ntmps15
        go_wp2_with (first | (go_at_call 37; refine HR.out.mono ?_; rintro e w2 ⟨rfl, hb⟩; have HB2 := Lib.hid (below_then HB1.out HB1.out.size hb); have HO2 := Lib.hid (HO1.out.below hb); have E := (hb.block (w.heap.size + 1) (blk_lt HE1.out)).trans HE1.out; have HE2 := Lib.hid E; have K := (hb.block w.heap.size (blk_lt HK1.out)).trans HK1.out; have HK2 := Lib.hid K; have a0 := blk_cell E 0; have a1 := blk_cell E 1; have a2 := blk_frozen E 0; have a3 := blk_frozen E 1; have b0 := blk_cell K 0; have b1 := blk_cell K 1; simp only [List.getElem?_toArray, List.getElem?_cons_zero, List.getElem?_cons_succ] at a0 a1 b0 b1; clear E K hb) | (go_at_call 17; refine (HKn.out w2).mono ?_; rintro e w3 ⟨rfl, mk, hmk⟩; have hb : Below w2.heap.size w2 w3 := hmk ▸ pw_below_drewN (Below.refl w2.heap.size w2) mk; clear hmk; have HB3 := Lib.hid (below_then HB2.out HB2.out.size hb); have HO3 := Lib.hid (HO2.out.below hb); have E := (hb.block (w.heap.size + 1) (blk_lt HE2.out)).trans HE2.out; have HE3 := Lib.hid E; have K := (hb.block w.heap.size (blk_lt HK2.out)).trans HK2.out; have HK3 := Lib.hid K; have a0 := blk_cell E 0; have a1 := blk_cell E 1; have a2 := blk_frozen E 0; have a3 := blk_frozen E 1; have b0 := blk_cell K 0; have b1 := blk_cell K 1; simp only [List.getElem?_toArray, List.getElem?_cons_zero, List.getElem?_cons_succ] at a0 a1 b0 b1; clear E K hb) | (go_at_call 38; refine (HWr.out _ HO3.out).mono ?_; rintro e w4 ⟨rfl, hb⟩; have HB4 := Lib.hid (below_then HB3.out HB3.out.size hb); have HO4 := Lib.hid (HO3.out.below hb); have E := (hb.block (w.heap.size + 1) (blk_lt HE3.out)).trans HE3.out; have HE4 := Lib.hid E; have K := (hb.block w.heap.size (blk_lt HK3.out)).trans HK3.out; have HK4 := Lib.hid K; have a0 := blk_cell E 0; have a1 := blk_cell E 1; have a2 := blk_frozen E 0; have a3 := blk_frozen E 1; have b0 := blk_cell K 0; have b1 := blk_cell K 1; simp only [List.getElem?_toArray, List.getElem?_cons_zero, List.getElem?_cons_succ] at a0 a1 b0 b1; clear E K hb))
        have F := blk_set HE4.out 0 (.int .i64 (0))
        have G := blk_set F 1 (.int .i64 (0))
        simp only [List.setIfInBounds_toArray, List.set_cons_zero, List.set_cons_succ] at G
        have y0 := blk_cell G 0
        have y1 := blk_cell G 1
        simp only [List.getElem?_toArray, List.getElem?_cons_zero, List.getElem?_cons_succ] at y0 y1
        refine bodyPost_ret (v := .tuple #[.agg #[.int .i64 (0), .int .i64 (0)], .int .i64 (c), .int .i64 (0)]) (by simp [results, Try.results15, go_sem, y0, y1]) rfl ⟨by rw [HV.out]; rfl, (HB4.out.setCell (by simp) _).setCell (by simp) _⟩
    · have hc : cellT tt = false := by simpa using hc
      have hv : getR H 2 n i tt = ((0, 0), 0, 150) := by unfold getR; rw [if_pos he, hc]; rfl
      have HV := Lib.hid hv
      cases kn with
      | false =>
        clear hr he hv hkn hc
        go_enter Try.func15, Try.ntmps15
        go_wp2_with (first | (go_at_call 37; refine HR.out.mono ?_; rintro e w2 ⟨rfl, hb⟩; have HB2 := Lib.hid (below_then HB1.out HB1.out.size hb); have HO2 := Lib.hid (HO1.out.below hb); have E := (hb.block (w.heap.size + 1) (blk_lt HE1.out)).trans HE1.out; have HE2 := Lib.hid E; have K := (hb.block w.heap.size (blk_lt HK1.out)).trans HK1.out; have HK2 := Lib.hid K; have a0 := blk_cell E 0; have a1 := blk_cell E 1; have a2 := blk_frozen E 0; have a3 := blk_frozen E 1; have b0 := blk_cell K 0; have b1 := blk_cell K 1; simp only [List.getElem?_toArray, List.getElem?_cons_zero, List.getElem?_cons_succ] at a0 a1 b0 b1; clear E K hb) | (go_at_call 17; refine (HKn.out w2).mono ?_; rintro e w3 ⟨rfl, mk, hmk⟩; have hb : Below w2.heap.size w2 w3 := hmk ▸ pw_below_drewN (Below.refl w2.heap.size w2) mk; clear hmk; have HB3 := Lib.hid (below_then HB2.out HB2.out.size hb); have HO3 := Lib.hid (HO2.out.below hb); have E := (hb.block (w.heap.size + 1) (blk_lt HE2.out)).trans HE2.out; have HE3 := Lib.hid E; have K := (hb.block w.heap.size (blk_lt HK2.out)).trans HK2.out; have HK3 := Lib.hid K; have a0 := blk_cell E 0; have a1 := blk_cell E 1; have a2 := blk_frozen E 0; have a3 := blk_frozen E 1; have b0 := blk_cell K 0; have b1 := blk_cell K 1; simp only [List.getElem?_toArray, List.getElem?_cons_zero, List.getElem?_cons_succ] at a0 a1 b0 b1; clear E K hb))
        have F := blk_set HE3.out 0 (.int .i64 (0))
        have G := blk_set F 1 (.int .i64 (0))
        simp only [List.setIfInBounds_toArray, List.set_cons_zero, List.set_cons_succ] at G
        have y0 := blk_cell G 0
        have y1 := blk_cell G 1
        simp only [List.getElem?_toArray, List.getElem?_cons_zero, List.getElem?_cons_succ] at y0 y1
        refine bodyPost_ret (v := .tuple #[.agg #[.int .i64 (0), .int .i64 (0)], .int .i64 (0), .int .i64 (150)]) (by simp [results, Try.results15, go_sem, y0, y1]) rfl ⟨by rw [HV.out]; rfl, (HB3.out.setCell (by simp) _).setCell (by simp) _⟩
      | true =>
        have hk4 : (tt == 4) = true := by unfold cellT at hc; simp at hc hkn ⊢; omega
        clear hr he hv hkn hc
        go_enter Try.func15, Try.ntmps15
        go_wp2_with (first | (go_at_call 37; refine HR.out.mono ?_; rintro e w2 ⟨rfl, hb⟩; have HB2 := Lib.hid (below_then HB1.out HB1.out.size hb); have HO2 := Lib.hid (HO1.out.below hb); have E := (hb.block (w.heap.size + 1) (blk_lt HE1.out)).trans HE1.out; have HE2 := Lib.hid E; have K := (hb.block w.heap.size (blk_lt HK1.out)).trans HK1.out; have HK2 := Lib.hid K; have a0 := blk_cell E 0; have a1 := blk_cell E 1; have a2 := blk_frozen E 0; have a3 := blk_frozen E 1; have b0 := blk_cell K 0; have b1 := blk_cell K 1; simp only [List.getElem?_toArray, List.getElem?_cons_zero, List.getElem?_cons_succ] at a0 a1 b0 b1; clear E K hb) | (go_at_call 17; refine (HKn.out w2).mono ?_; rintro e w3 ⟨rfl, mk, hmk⟩; have hb : Below w2.heap.size w2 w3 := hmk ▸ pw_below_drewN (Below.refl w2.heap.size w2) mk; clear hmk; have HB3 := Lib.hid (below_then HB2.out HB2.out.size hb); have HO3 := Lib.hid (HO2.out.below hb); have E := (hb.block (w.heap.size + 1) (blk_lt HE2.out)).trans HE2.out; have HE3 := Lib.hid E; have K := (hb.block w.heap.size (blk_lt HK2.out)).trans HK2.out; have HK3 := Lib.hid K; have a0 := blk_cell E 0; have a1 := blk_cell E 1; have a2 := blk_frozen E 0; have a3 := blk_frozen E 1; have b0 := blk_cell K 0; have b1 := blk_cell K 1; simp only [List.getElem?_toArray, List.getElem?_cons_zero, List.getElem?_cons_succ] at a0 a1 b0 b1; clear E K hb))
        have F := blk_set HE3.out 0 (.int .i64 (0))
        have G := blk_set F 1 (.int .i64 (0))
        simp only [List.setIfInBounds_toArray, List.set_cons_zero, List.set_cons_succ] at G
        have y0 := blk_cell G 0
        have y1 := blk_cell G 1
        simp only [List.getElem?_toArray, List.getElem?_cons_zero, List.getElem?_cons_succ] at y0 y1
        refine bodyPost_ret (v := .tuple #[.agg #[.int .i64 (0), .int .i64 (0)], .int .i64 (0), .int .i64 (150)]) (by simp [results, Try.results15, go_sem, y0, y1]) rfl ⟨by rw [HV.out]; rfl, (HB3.out.setCell (by simp) _).setCell (by simp) _⟩
end Go.Proofs.Ytnomjjhocblkkaa
