/- get: a cell that there is. -/
import Derived.Test.YtnomjjhocblkkaaHg
namespace Go.Proofs.Ytnomjjhocblkkaa
open Go.RowKit Go.Shelf Go.Proofs.YtnomjjhocblkkaaW.PrintWords Go.Proofs.YtnomjjhocblkkaaW.PrintLast Go.Proofs.YtnomjjhocblkkaaW.PrintMore
open Go.Proofs.Ytnomjjhocblkkaa.PHeapSound

/-- A cell's value. -/
def getC (H : HM) (n i : Int) : Int × Int := (lookC H.cs (n, i)).getD (rd (rowOf H n) i, 0)

theorem lookup_at (W : World) (m : Nat) (n i : Int) (es : Array MapEntry) (clock : Nat) (cs : List ((Int × Int) × (Int × Int))) (hb : W.heap[m]? = some (.map es clock)) (he : Ents es cs) :
    (Instr.lookup 67 (.map (some m)) (.agg #[.int .i64 n, .int .i64 i]) true).run Try.prog W = .ok (.tuple #[two ((lookC cs (n, i)).getD (0, 0)), .bool (lookC cs (n, i)).isSome]) W :=
  run_lookup_two key78 Try.underlying67 m (n, i) W es clock cs hb he zero32

set_option maxRecDepth 100000 in
set_option maxHeartbeats 1000000 in
theorem get_any {base : Nat} {w : World} {g m : Nat} {H : HM} {R : Nat → Prop} (h : HOwn base w g m H R) (hf : HFit H) (n i : Int) (h1 : 1 ≤ n) (h2 : n ≤ H.objs.length) (h3 : 0 ≤ i) (h4 : i < (rowOf H n).length) :
    Calls Try.prog 39 #[.pointer (some ⟨g, 0, none⟩), .agg #[.int .i64 2, .int .i64 n], .int .i64 i] w fun e w' => e = .returned (two (getC H n i)) ∧ Below w.heap.size w w' := by
  obtain ⟨S, sc, O, oc, es, clock, _, _, _, _, _, hm, hE, _, _, _, _, c4⟩ := h.now
  have q1 := blk_cell (World.alloc_heap_new w (.cells #[.int .i64 2, .int .i64 n] 32)) 1
  have q0 := blk_cell (World.alloc_heap_new w (.cells #[.int .i64 2, .int .i64 n] 32)) 0
  simp only [List.getElem?_toArray, List.getElem?_cons_zero, List.getElem?_cons_succ] at q0 q1
  have hBa : Below w.heap.size w ((w.alloc (.cells #[.int .i64 2, .int .i64 n] 32)).alloc (.cells #[.int .i64 0, .int .i64 0] 32)) := ((Below.refl w.heap.size w).alloc (Nat.le_refl _) _).alloc (by simp) _
  have HBa := Lib.hid hBa
  have HL := Lib.hid (fun W (hb : Below w.heap.size w W) => lookup_at W m n i es clock H.cs ((hb.block m (blk_lt hm)).trans hm) hE)
  have HO := Lib.hid h
  have HF := Lib.hid hf
  have HQ0 := Lib.hid q0
  have HQ1 := Lib.hid q1
  have HC4 := Lib.hid (fun W (hb : Below w.heap.size w W) => pw_cell_below hb c4)
  clear h hf hm hE q0 q1 hBa c4
  obtain ⟨p, hp⟩ : ∃ p : Int × Int, (lookC H.cs (n, i)).getD (0, 0) = p := ⟨_, rfl⟩
  obtain ⟨b, hb⟩ : ∃ b : Bool, (lookC H.cs (n, i)).isSome = b := ⟨_, rfl⟩
  rw [hp, hb] at HL
  have HP := Lib.hid hp
  have HBb := Lib.hid hb
  clear hp hb
  cases b
  · go_enter Try.func39, Try.ntmps39
    go_wp2
    have hsz : ((w.alloc (.cells #[.int .i64 2, .int .i64 n] 32)).alloc (.cells #[.int .i64 0, .int .i64 0] 32)).heap.size = w.heap.size + 2 := by simp
    have d1 := pw_cell_below (below_alloc (Below.refl _ (w.alloc (.cells #[.int .i64 2, .int .i64 n] 32))) (.cells #[.int .i64 0, .int .i64 0] 32)) HQ1.out
    have d0 := pw_cell_below (below_alloc (Below.refl _ (w.alloc (.cells #[.int .i64 2, .int .i64 n] 32))) (.cells #[.int .i64 0, .int .i64 0] 32)) HQ0.out
    have d4 := HC4.out _ HBa.out
    have e6 := World.alloc_heap_new (w.alloc (.cells #[.int .i64 2, .int .i64 n] 32)) (.cells #[.int .i64 0, .int .i64 0] 32)
    rw [World.size_alloc] at e6
    have E6 := Lib.hid e6
    have HSZ := Lib.hid hsz
    clear e6 hsz
    generalize (w.alloc (.cells #[.int .i64 2, .int .i64 n] 32)).alloc (.cells #[.int .i64 0, .int .i64 0] 32) = w1 at *
    have hgl : g < w.heap.size := HO.out.glt.1
    have f1 : w1.drew.cell? ⟨w.heap.size, 1, none⟩ = some (.int .i64 n) := d1
    have f4 : w1.drew.cell? ⟨g, 4, none⟩ = some (.map (some m)) := d4
    go_region_held3 (fun w' => w'.cell? ⟨g, 4, none⟩ = some (.map (some m)) ∧ w'.cell? ⟨w.heap.size, 1, none⟩ = some (.int .i64 n) ∧ (Instr.lookup 67 (.map (some m)) (.agg #[.int .i64 n, .int .i64 i]) true).run Try.prog w' = .ok (.tuple #[.agg #[.int .i64 p.1, .int .i64 p.2], .bool false]) w')
      ((refine ⟨?_, ?_, HL.out _ ?_⟩ <;> first | (go_keep; done) | (repeat (first | exact HBa.out | apply below_drew | refine Below.alloc ?_ (by have := HSZ.out; simp; omega) _ | refine Below.setCell ?_ (by have := HSZ.out; simp; omega) _)))) (fail)
    all_goals
     have hb2 : Below w.heap.size w (w1.alloc (.cells #[.int .i64 p.1, .int .i64 p.2] 32)).drew := below_drew (HBa.out.alloc (by have := HSZ.out; omega) _)
     have E2 : (w1.alloc (.cells #[.int .i64 p.1, .int .i64 p.2] 32)).drew.heap[w.heap.size + 1]? = some (.cells #[.int .i64 0, .int .i64 0] 32 (0, 0)) := (World.alloc_heap_old' w1 _ (by have := HSZ.out; omega)).trans E6.out
     have X2 : (w1.alloc (.cells #[.int .i64 p.1, .int .i64 p.2] 32)).drew.heap[w1.heap.size]? = some (.cells #[.int .i64 p.1, .int .i64 p.2] 32 (0, 0)) := World.alloc_heap_new w1 _
     have k1 := pw_cell_below (below_drew (below_alloc (Below.refl _ w1) (.cells #[.int .i64 p.1, .int .i64 p.2] 32))) d1
     have k0 := pw_cell_below (below_drew (below_alloc (Below.refl _ w1) (.cells #[.int .i64 p.1, .int .i64 p.2] 32))) d0
     have HO2 := Lib.hid (HO.out.below hb2)
     have HB2 := Lib.hid hb2
     have r0 := blk_cell E2 0
     have r1 := blk_cell E2 1
     have r2 := blk_frozen E2 0
     have r3 := blk_frozen E2 1
     have s0 := blk_cell X2 0
     have s1 := blk_cell X2 1
     simp only [List.getElem?_toArray, List.getElem?_cons_zero, List.getElem?_cons_succ] at r0 r1 s0 s1
     have HE2 := Lib.hid E2
     clear E2 X2 hb2 f1 f4 d0 d1 d4
     generalize (w1.alloc (.cells #[.int .i64 p.1, .int .i64 p.2] 32)).drew = w2 at *
    all_goals
      have hv : getC H n i = (rd (rowOf H n) i, 0) := by
        have h2 := HBb.out
        unfold getC
        cases h3 : lookC H.cs (n, i) with
        | none => rfl
        | some v => rw [h3] at h2; simp at h2
      have HV := Lib.hid hv
      clear hv
      obtain ⟨A, c, hlc, hC, ho⟩ := of_at HO2.out HF.out 2 n h1 h2
      have HOf := Lib.hid ho
      have hlen := HF.out.rowlen h1 h2
      obtain ⟨k, rfl⟩ := Int.eq_ofNat_of_zero_le h3
      obtain ⟨ad, rfl, e1⟩ := Kd.at_int hC (k : Int) (by omega) (by omega)
      rw [Int.toNat_natCast] at e1
      generalize rowOf H n = row at *
      clear hC hlc ho h3 r0 r1 r2 r3 s1
      go_wp2_with (go_at_call 41; refine HOf.out.mono ?_; rintro e w3 ⟨rfl, hb⟩; have HB3 := Lib.hid (below_then HB2.out HB2.out.size hb); have E3 := (hb.block (w.heap.size + 1) (blk_lt HE2.out)).trans HE2.out; have r0 := blk_cell E3 0; have r1 := blk_cell E3 1; have r2 := blk_frozen E3 0; have r3 := blk_frozen E3 1; simp only [List.getElem?_toArray, List.getElem?_cons_zero, List.getElem?_cons_succ] at r0 r1; have HE3 := Lib.hid E3; have z1 := pw_cell_below hb e1; clear E3 hb)
      have F := blk_set HE3.out 0 (.int .i64 (rd row k))
      have G := blk_set F 1 (.int .i64 0)
      simp only [List.setIfInBounds_toArray, List.set_cons_zero, List.set_cons_succ] at G
      have y0 := blk_cell G 0
      have y1 := blk_cell G 1
      simp only [List.getElem?_toArray, List.getElem?_cons_zero, List.getElem?_cons_succ] at y0 y1
      refine bodyPost_ret (v := .agg #[.int .i64 (rd row k), .int .i64 0]) (by simp [results, Try.results39, go_sem, y0, y1]) rfl ⟨by rw [HV.out]; rfl, (HB3.out.setCell (by simp) _).setCell (by simp) _⟩
  · go_enter Try.func39, Try.ntmps39
    go_wp2
    have hsz : ((w.alloc (.cells #[.int .i64 2, .int .i64 n] 32)).alloc (.cells #[.int .i64 0, .int .i64 0] 32)).heap.size = w.heap.size + 2 := by simp
    have d1 := pw_cell_below (below_alloc (Below.refl _ (w.alloc (.cells #[.int .i64 2, .int .i64 n] 32))) (.cells #[.int .i64 0, .int .i64 0] 32)) HQ1.out
    have d0 := pw_cell_below (below_alloc (Below.refl _ (w.alloc (.cells #[.int .i64 2, .int .i64 n] 32))) (.cells #[.int .i64 0, .int .i64 0] 32)) HQ0.out
    have d4 := HC4.out _ HBa.out
    have e6 := World.alloc_heap_new (w.alloc (.cells #[.int .i64 2, .int .i64 n] 32)) (.cells #[.int .i64 0, .int .i64 0] 32)
    rw [World.size_alloc] at e6
    have E6 := Lib.hid e6
    have HSZ := Lib.hid hsz
    clear e6 hsz
    generalize (w.alloc (.cells #[.int .i64 2, .int .i64 n] 32)).alloc (.cells #[.int .i64 0, .int .i64 0] 32) = w1 at *
    have hgl : g < w.heap.size := HO.out.glt.1
    have f1 : w1.drew.cell? ⟨w.heap.size, 1, none⟩ = some (.int .i64 n) := d1
    have f4 : w1.drew.cell? ⟨g, 4, none⟩ = some (.map (some m)) := d4
    go_region_held3 (fun w' => w'.cell? ⟨g, 4, none⟩ = some (.map (some m)) ∧ w'.cell? ⟨w.heap.size, 1, none⟩ = some (.int .i64 n) ∧ (Instr.lookup 67 (.map (some m)) (.agg #[.int .i64 n, .int .i64 i]) true).run Try.prog w' = .ok (.tuple #[.agg #[.int .i64 p.1, .int .i64 p.2], .bool true]) w')
      ((refine ⟨?_, ?_, HL.out _ ?_⟩ <;> first | (go_keep; done) | (repeat (first | exact HBa.out | apply below_drew | refine Below.alloc ?_ (by have := HSZ.out; simp; omega) _ | refine Below.setCell ?_ (by have := HSZ.out; simp; omega) _)))) (fail)
    all_goals
     have hb2 : Below w.heap.size w (w1.alloc (.cells #[.int .i64 p.1, .int .i64 p.2] 32)).drew := below_drew (HBa.out.alloc (by have := HSZ.out; omega) _)
     have E2 : (w1.alloc (.cells #[.int .i64 p.1, .int .i64 p.2] 32)).drew.heap[w.heap.size + 1]? = some (.cells #[.int .i64 0, .int .i64 0] 32 (0, 0)) := (World.alloc_heap_old' w1 _ (by have := HSZ.out; omega)).trans E6.out
     have X2 : (w1.alloc (.cells #[.int .i64 p.1, .int .i64 p.2] 32)).drew.heap[w1.heap.size]? = some (.cells #[.int .i64 p.1, .int .i64 p.2] 32 (0, 0)) := World.alloc_heap_new w1 _
     have k1 := pw_cell_below (below_drew (below_alloc (Below.refl _ w1) (.cells #[.int .i64 p.1, .int .i64 p.2] 32))) d1
     have k0 := pw_cell_below (below_drew (below_alloc (Below.refl _ w1) (.cells #[.int .i64 p.1, .int .i64 p.2] 32))) d0
     have HO2 := Lib.hid (HO.out.below hb2)
     have HB2 := Lib.hid hb2
     have r0 := blk_cell E2 0
     have r1 := blk_cell E2 1
     have r2 := blk_frozen E2 0
     have r3 := blk_frozen E2 1
     have s0 := blk_cell X2 0
     have s1 := blk_cell X2 1
     simp only [List.getElem?_toArray, List.getElem?_cons_zero, List.getElem?_cons_succ] at r0 r1 s0 s1
     have HE2 := Lib.hid E2
     clear E2 X2 hb2 f1 f4 d0 d1 d4
     generalize (w1.alloc (.cells #[.int .i64 p.1, .int .i64 p.2] 32)).drew = w2 at *
    all_goals
      have hv : getC H n i = p := by
        have h1 := HP.out
        have h2 := HBb.out
        unfold getC
        cases h3 : lookC H.cs (n, i) with
        | none => rw [h3] at h2; simp at h2
        | some v => rw [h3] at h1; simpa using h1
      have HV := Lib.hid hv
      clear hv
      go_wp2
      have F := blk_set HE2.out 0 (.int .i64 p.1)
      have G := blk_set F 1 (.int .i64 p.2)
      simp only [List.setIfInBounds_toArray, List.set_cons_zero, List.set_cons_succ] at G
      have y0 := blk_cell G 0
      have y1 := blk_cell G 1
      simp only [List.getElem?_toArray, List.getElem?_cons_zero, List.getElem?_cons_succ] at y0 y1
      refine bodyPost_ret (v := .agg #[.int .i64 p.1, .int .i64 p.2]) (by simp [results, Try.results39, go_sem, y0, y1]) rfl ⟨by rw [HV.out]; rfl, (HB2.out.setCell (by simp) _).setCell (by simp) _⟩
end Go.Proofs.Ytnomjjhocblkkaa
