/- Set: a cell is set, or what is wrong with it, or an error. -/
import Derived.Test.YtnomjjhocblkkaaHi
import Derived.StillTailTactics
namespace Go.Proofs.Ytnomjjhocblkkaa
open Go.RowKit Go.Shelf Go.Proofs.YtnomjjhocblkkaaW.PrintWords Go.Proofs.YtnomjjhocblkkaaW.PrintLast Go.Proofs.YtnomjjhocblkkaaW.PrintMore
open Go.Proofs.Ytnomjjhocblkkaa.PHeapSound

/-- Does Set set a cell? -/
def setsB (H : HM) (t n i vt vv : Int) : Bool := decide (readyC H t n = 0) && heldB H vt vv && decide (wrongC H n i vt = 0)
/-- What Set answers, and the heap behind it. -/
def setR (H : HM) (t n i vt vv : Int) : Int × Int :=
  if readyC H t n = 0 then (if heldB H vt vv then (wrongC H n i vt, 0) else (0, 150)) else (0, 150)
def setH (H : HM) (t n i vt vv : Int) : HM := if setsB H t n i vt vv then { H with cs := putC H.cs (n, i) (vt, vv) } else H

def World.withBlock (W : World) (m : Nat) (o : Obj) : World := { W with heap := W.heap.setIfInBounds m o }
theorem withBlock_fr (W : World) (m : Nat) (o : Obj) : Fr (fun k => k = m) W (World.withBlock W m o) :=
  ⟨rfl, rfl, rfl, by simp [World.withBlock], fun i hi hn => by simp [World.withBlock, Ne.symm hn]⟩
theorem withBlock_at (W : World) (m : Nat) (o : Obj) (h : m < W.heap.size) : (World.withBlock W m o).heap[m]? = some o := by
  simp [World.withBlock, h]

theorem HOwn.put {base : Nat} {W : World} {g m : Nat} {H : HM} {R : Nat → Prop} (h : HOwn base W g m H R) (k v : Int × Int) {es' : Array MapEntry} {clock' : Nat} (hE : Ents es' (putC H.cs k v)) :
    HOwn base (World.withBlock W m (.map es' clock')) g m { H with cs := putC H.cs k v } R := by
  obtain ⟨hgl, hml⟩ := h.glt
  have hgm := h.gm
  have hF := withBlock_fr W m (.map es' clock')
  obtain ⟨S', sc, O, oc, es, clock, h1, h2, h3, h4, h5, h6, h7⟩ := h.ex
  exact ⟨⟨S', sc, O, oc, es', clock', (hF.block g hgl hgm).trans h1, h2, h3, F_fr h4 hF (fun i hi e => h.nm (e ▸ hi)) h.lt, F_fr h5 hF (fun i hi e => h.nm (e ▸ hi)) h.lt, withBlock_at W m _ hml, hE⟩, h.ng, h.nm, fun i hi => Nat.lt_of_lt_of_le (h.lt i hi) hF.size, h.lo⟩

set_option maxRecDepth 100000 in
set_option maxHeartbeats 2000000 in
theorem Set_any {base : Nat} {w : World} {g m : Nat} {H : HM} {R : Nat → Prop} (h : HOwn base w g m H R) (hf : HFit H) (t n i vt vv : Int) :
    Calls Try.prog 13 #[.pointer (some ⟨g, 0, none⟩), .agg #[.int .i64 t, .int .i64 n], .int .i64 i, .agg #[.int .i64 vt, .int .i64 vv]] w fun e w' => e = .returned (.tuple #[.int .i64 (setR H t n i vt vv).1, .int .i64 (setR H t n i vt vv).2]) ∧
      HOwn base w' g m (setH H t n i vt vv) R ∧ Fr (fun k => k = m) w w' := by
  have hB1 : Below w.heap.size w ((w.alloc (.cells #[.int .i64 t, .int .i64 n] 32)).alloc (.cells #[.int .i64 vt, .int .i64 vv] 32)) := ((Below.refl w.heap.size w).alloc (Nat.le_refl _) _).alloc (by simp) _
  have HB1 := Lib.hid hB1
  have HO1 := Lib.hid (h.below hB1)
  have e6 := World.alloc_heap_new (w.alloc (.cells #[.int .i64 t, .int .i64 n] 32)) (.cells #[.int .i64 vt, .int .i64 vv] 32)
  rw [World.size_alloc] at e6
  have HE1 := Lib.hid e6
  have k6 := (World.alloc_heap_old' (w.alloc (.cells #[.int .i64 t, .int .i64 n] 32)) (.cells #[.int .i64 vt, .int .i64 vv] 32) (i := w.heap.size) (by simp)).trans (World.alloc_heap_new w _)
  have HK1 := Lib.hid k6
  have HF := Lib.hid hf
  have hr := ready_any (h.below hB1) t n
  clear h hB1 e6 k6 hf
  rcases readyC_cases H t n with he | ⟨he, rfl, h1, h2⟩
  · have hv : setR H t n i vt vv = (0, 150) ∧ setH H t n i vt vv = H := by unfold setR setH setsB; simp [he]
    have HV := Lib.hid hv
    rw [he] at hr
    have HR := Lib.hid hr
    clear hr he hv
    go_enter Try.func13, Try.ntmps13
    go_wp2_with (go_at_call 37; refine HR.out.mono ?_; rintro e w2 ⟨rfl, hb⟩; have HB2 := Lib.hid (below_then HB1.out HB1.out.size hb); have HO2 := Lib.hid (HO1.out.below hb); have E := (hb.block (w.heap.size + 1) (blk_lt HE1.out)).trans HE1.out; have HE2 := Lib.hid E; have K := (hb.block w.heap.size (blk_lt HK1.out)).trans HK1.out; have HK2 := Lib.hid K; have a0 := blk_cell E 0; have a1 := blk_cell E 1; have b0 := blk_cell K 0; have b1 := blk_cell K 1; simp only [List.getElem?_toArray, List.getElem?_cons_zero, List.getElem?_cons_succ] at a0 a1 b0 b1; clear E K hb)
    go_ret2
    exact ⟨by rw [HV.out.1]; rfl, by rw [HV.out.2]; exact HO2.out, Fr.of_below HB2.out⟩
  · rw [he] at hr
    have HR := Lib.hid hr
    have HH := Lib.hid (fun (W : World) (ho : HOwn base W g m H R) => Held_any ho vt vv)
    by_cases hh : heldB H vt vv = true
    · rw [hh] at HH
      have HWr := Lib.hid (fun (W : World) (ho : HOwn base W g m H R) => wrong_any ho HF.out n i vt h1 h2)
      by_cases hw : wrongC H n i vt = 0
      · have hv : setR H 2 n i vt vv = (0, 0) ∧ setH H 2 n i vt vv = { H with cs := putC H.cs (n, i) (vt, vv) } := by unfold setR setH setsB; simp [he, hh, hw]
        have HV := Lib.hid hv
        rw [hw] at HWr
        clear hr he hv hh hw
        go_enter Try.func13, Try.ntmps13
        go_wp2_with (first | (go_at_call 37; refine HR.out.mono ?_; rintro e w2 ⟨rfl, hb⟩; have HB2 := Lib.hid (below_then HB1.out HB1.out.size hb); have HO2 := Lib.hid (HO1.out.below hb); have E := (hb.block (w.heap.size + 1) (blk_lt HE1.out)).trans HE1.out; have HE2 := Lib.hid E; have K := (hb.block w.heap.size (blk_lt HK1.out)).trans HK1.out; have HK2 := Lib.hid K; have a0 := blk_cell E 0; have a1 := blk_cell E 1; have b0 := blk_cell K 0; have b1 := blk_cell K 1; simp only [List.getElem?_toArray, List.getElem?_cons_zero, List.getElem?_cons_succ] at a0 a1 b0 b1; clear E K hb) | (go_at_call 21; refine (HH.out _ HO2.out).mono ?_; rintro e w3 ⟨rfl, hb⟩; have HB3 := Lib.hid (below_then HB2.out HB2.out.size hb); have HO3 := Lib.hid (HO2.out.below hb); have E := (hb.block (w.heap.size + 1) (blk_lt HE2.out)).trans HE2.out; have HE3 := Lib.hid E; have K := (hb.block w.heap.size (blk_lt HK2.out)).trans HK2.out; have HK3 := Lib.hid K; have a0 := blk_cell E 0; have a1 := blk_cell E 1; have b0 := blk_cell K 0; have b1 := blk_cell K 1; simp only [List.getElem?_toArray, List.getElem?_cons_zero, List.getElem?_cons_succ] at a0 a1 b0 b1; clear E K hb) | (go_at_call 38; refine (HWr.out _ HO3.out).mono ?_; rintro e w4 ⟨rfl, hb⟩; have HB4 := Lib.hid (below_then HB3.out HB3.out.size hb); have HO4 := Lib.hid (HO3.out.below hb); have E := (hb.block (w.heap.size + 1) (blk_lt HE3.out)).trans HE3.out; have HE4 := Lib.hid E; have K := (hb.block w.heap.size (blk_lt HK3.out)).trans HK3.out; have HK4 := Lib.hid K; have a0 := blk_cell E 0; have a1 := blk_cell E 1; have b0 := blk_cell K 0; have b1 := blk_cell K 1; simp only [List.getElem?_toArray, List.getElem?_cons_zero, List.getElem?_cons_succ] at a0 a1 b0 b1; clear E K hb))
        obtain ⟨S, sc, O, oc, es, clock, _, _, _, _, _, hm, hE, _, _, _, _, c4⟩ := HO4.out.now
        have hmd : w4.drew.heap[m]? = some (.map es clock) := hm
        obtain ⟨es', clock', heq, hE'⟩ := run_mapUpdate_two key78 Try.underlying67 m (n, i) (vt, vv) w4.drew es clock H.cs hmd hE
        have HE' := Lib.hid hE'
        have HOd := Lib.hid (HO4.out.below (below_drew (Below.refl _ _)))
        have HBd := Lib.hid (below_drew HB4.out)
        have heq2 : (Instr.mapUpdate 67 (.map (some m)) (.agg #[.int .i64 n, .int .i64 i]) (.agg #[.int .i64 vt, .int .i64 vv])).run Try.prog w4.drew = .ok () (World.withBlock w4.drew m (.map es' clock')) := heq
        have x0 : w4.drew.cell? ⟨w.heap.size + 1, 0, none⟩ = some (.int .i64 vt) := a0
        have x1 : w4.drew.cell? ⟨w.heap.size + 1, 1, none⟩ = some (.int .i64 vv) := a1
        have x3 : w4.drew.cell? ⟨w.heap.size, 1, none⟩ = some (.int .i64 n) := b1
        have x4 : w4.drew.cell? ⟨g, 4, none⟩ = some (.map (some m)) := c4
        clear heq hE hE' hm hmd
        go_still_tail 9, (by kernel_rfl)
        change wpList _ _ _ _ _ w4.drew
        generalize w4.drew = w5 at *
        go_wp2
        go_ret2
        exact ⟨by rw [HV.out.1]; rfl, by rw [HV.out.2]; exact HOwn.put HOd.out (n, i) (vt, vv) HE'.out, (Fr.of_below HBd.out).trans (withBlock_fr _ _ _) (fun _ _ h => h)⟩
      · have hv : setR H 2 n i vt vv = (wrongC H n i vt, 0) ∧ setH H 2 n i vt vv = H := by unfold setR setH setsB; simp [he, hh, hw]
        have HV := Lib.hid hv
        obtain ⟨c, hcc⟩ : ∃ c, wrongC H n i vt = c := ⟨_, rfl⟩
        rw [hcc] at HWr HV hw
        have hc0 : (c == 0) = false := by simpa using hw
        clear hr he hv hw hcc hh
        go_enter Try.func13, Try.ntmps13
        go_wp2_with (first | (go_at_call 37; refine HR.out.mono ?_; rintro e w2 ⟨rfl, hb⟩; have HB2 := Lib.hid (below_then HB1.out HB1.out.size hb); have HO2 := Lib.hid (HO1.out.below hb); have E := (hb.block (w.heap.size + 1) (blk_lt HE1.out)).trans HE1.out; have HE2 := Lib.hid E; have K := (hb.block w.heap.size (blk_lt HK1.out)).trans HK1.out; have HK2 := Lib.hid K; have a0 := blk_cell E 0; have a1 := blk_cell E 1; have b0 := blk_cell K 0; have b1 := blk_cell K 1; simp only [List.getElem?_toArray, List.getElem?_cons_zero, List.getElem?_cons_succ] at a0 a1 b0 b1; clear E K hb) | (go_at_call 21; refine (HH.out _ HO2.out).mono ?_; rintro e w3 ⟨rfl, hb⟩; have HB3 := Lib.hid (below_then HB2.out HB2.out.size hb); have HO3 := Lib.hid (HO2.out.below hb); have E := (hb.block (w.heap.size + 1) (blk_lt HE2.out)).trans HE2.out; have HE3 := Lib.hid E; have K := (hb.block w.heap.size (blk_lt HK2.out)).trans HK2.out; have HK3 := Lib.hid K; have a0 := blk_cell E 0; have a1 := blk_cell E 1; have b0 := blk_cell K 0; have b1 := blk_cell K 1; simp only [List.getElem?_toArray, List.getElem?_cons_zero, List.getElem?_cons_succ] at a0 a1 b0 b1; clear E K hb) | (go_at_call 38; refine (HWr.out _ HO3.out).mono ?_; rintro e w4 ⟨rfl, hb⟩; have HB4 := Lib.hid (below_then HB3.out HB3.out.size hb); have HO4 := Lib.hid (HO3.out.below hb); have E := (hb.block (w.heap.size + 1) (blk_lt HE3.out)).trans HE3.out; have HE4 := Lib.hid E; have K := (hb.block w.heap.size (blk_lt HK3.out)).trans HK3.out; have HK4 := Lib.hid K; have a0 := blk_cell E 0; have a1 := blk_cell E 1; have b0 := blk_cell K 0; have b1 := blk_cell K 1; simp only [List.getElem?_toArray, List.getElem?_cons_zero, List.getElem?_cons_succ] at a0 a1 b0 b1; clear E K hb))
        go_ret2
        exact ⟨by rw [HV.out.1]; rfl, by rw [HV.out.2]; exact HO4.out, Fr.of_below HB4.out⟩
    · have hh : heldB H vt vv = false := by simpa using hh
      rw [hh] at HH
      have hv : setR H 2 n i vt vv = (0, 150) ∧ setH H 2 n i vt vv = H := by unfold setR setH setsB; simp [he, hh]
      have HV := Lib.hid hv
      clear hr he hv hh
      go_enter Try.func13, Try.ntmps13
      go_wp2_with (first | (go_at_call 37; refine HR.out.mono ?_; rintro e w2 ⟨rfl, hb⟩; have HB2 := Lib.hid (below_then HB1.out HB1.out.size hb); have HO2 := Lib.hid (HO1.out.below hb); have E := (hb.block (w.heap.size + 1) (blk_lt HE1.out)).trans HE1.out; have HE2 := Lib.hid E; have K := (hb.block w.heap.size (blk_lt HK1.out)).trans HK1.out; have HK2 := Lib.hid K; have a0 := blk_cell E 0; have a1 := blk_cell E 1; have b0 := blk_cell K 0; have b1 := blk_cell K 1; simp only [List.getElem?_toArray, List.getElem?_cons_zero, List.getElem?_cons_succ] at a0 a1 b0 b1; clear E K hb) | (go_at_call 21; refine (HH.out _ HO2.out).mono ?_; rintro e w3 ⟨rfl, hb⟩; have HB3 := Lib.hid (below_then HB2.out HB2.out.size hb); have HO3 := Lib.hid (HO2.out.below hb); have E := (hb.block (w.heap.size + 1) (blk_lt HE2.out)).trans HE2.out; have HE3 := Lib.hid E; have K := (hb.block w.heap.size (blk_lt HK2.out)).trans HK2.out; have HK3 := Lib.hid K; have a0 := blk_cell E 0; have a1 := blk_cell E 1; have b0 := blk_cell K 0; have b1 := blk_cell K 1; simp only [List.getElem?_toArray, List.getElem?_cons_zero, List.getElem?_cons_succ] at a0 a1 b0 b1; clear E K hb))
      go_ret2
      exact ⟨by rw [HV.out.1]; rfl, by rw [HV.out.2]; exact HO3.out, Fr.of_below HB3.out⟩
end Go.Proofs.Ytnomjjhocblkkaa
