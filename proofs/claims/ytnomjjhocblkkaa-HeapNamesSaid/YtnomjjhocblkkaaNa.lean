/- Cells: an object's cells' values, in memory of their own. -/
import Derived.Test.YtnomjjhocblkkaaMb
import Derived.Deep.DeepCutAuto
import Derived.Deep.CutBlock
namespace Go.Proofs.Ytnomjjhocblkkaa
open Go.RowKit Go.Shelf Go.Proofs.YtnomjjhocblkkaaW.PrintWords Go.Proofs.YtnomjjhocblkkaaW.PrintLast Go.Proofs.YtnomjjhocblkkaaW.PrintMore
open Go.Proofs.Ytnomjjhocblkkaa.PHeapSound

/-- An object's cells' values. -/
def csOf (H : HM) (n : Int) : List S32 := (List.range (rowOf H n).length).map fun i : Nat => ⟨(getC H n (i : Int)).1, (getC H n (i : Int)).2⟩
def cellsC (H : HM) (t n : Int) : List S32 := if objC H t n = 0 then csOf H n else []
theorem csOf_length (H : HM) (n : Int) : (csOf H n).length = (rowOf H n).length := by simp [csOf]
theorem csOf_take (H : HM) (n : Int) {k : Nat} (hk : k < (rowOf H n).length) : (csOf H n).take (k + 1) = (csOf H n).take k ++ [⟨(getC H n k).1, (getC H n k).2⟩] := by
  rw [List.take_succ_eq_append_getElem (by rw [csOf_length]; exact hk)]
  simp [csOf]

theorem info32 : (Try.prog.info? 32).map (fun i => (i.zero, i.size, i.bytes)) = some (some (.agg #[.int .i64 0, .int .i64 0]), 2, 16) := by kernel_rfl

set_option maxRecDepth 100000 in
set_option maxHeartbeats 2000000 in
theorem Cells_any {base : Nat} {w : World} {g m : Nat} {H : HM} {R : Nat → Prop} (h : HOwn base w g m H R) (hf : HFit H) (t n : Int) :
    Calls Try.prog 19 #[.pointer (some ⟨g, 0, none⟩), .agg #[.int .i64 t, .int .i64 n]] w fun e w' => ∃ v, e = .returned (.tuple #[v, .int .i64 (objC H t n)]) ∧ Kd.R k32 32 w' w.heap.size (fun _ => True) v (cellsC H t n) ∧ Below w.heap.size w w' := by
  have hB0 : Below w.heap.size w (w.alloc (.cells #[.int .i64 t, .int .i64 n] 32)) := below_alloc (Below.refl _ _) _
  have HB0 := Lib.hid hB0
  have HO := Lib.hid (h.below hB0)
  have q0 := blk_cell (World.alloc_heap_new w (.cells #[.int .i64 t, .int .i64 n] 32)) 0
  have q1 := blk_cell (World.alloc_heap_new w (.cells #[.int .i64 t, .int .i64 n] 32)) 1
  simp only [List.getElem?_toArray, List.getElem?_cons_zero, List.getElem?_cons_succ] at q0 q1
  have Q0 := Lib.hid q0
  have Q1 := Lib.hid q1
  have hr := object_any (h.below hB0) t n
  have HF := Lib.hid hf
  clear q0 q1 hf
  rcases objC_cases H t n with he | ⟨he, rfl, h1, h2⟩
  · have e : cellsC H t n = [] := by unfold cellsC; rw [he]; rfl
    rw [e, he]
    rw [he] at hr
    have HR := Lib.hid hr
    clear hr he e h hB0
    go_enter Try.func19, Try.ntmps19
    go_wp2_with (go_at_call 40; refine HR.out.mono ?_; rintro e w1 ⟨rfl, hb⟩; have HB1 := Lib.hid (below_then HB0.out HB0.out.size hb); clear hb)
    go_ret2
    exact ⟨_, rfl, Kd.R_nil _ _ _ _ _, HB1.out⟩
  · have e : cellsC H 2 n = csOf H n := by unfold cellsC; rw [he, if_pos rfl]
    rw [e, he]
    rw [he] at hr
    have HR := Lib.hid hr
    have HSZ := Lib.hid (show w.heap.size ≤ (w.alloc (.cells #[.int .i64 2, .int .i64 n] 32)).heap.size by simp)
    have hrl : (rowOf H n).length ≤ 16 := by
      have h3 := HF.out.obj h1 h2
      exact HF.out.row _ (rdL1_in h3.1 h3.2)
    have HCT := Lib.hid (fun k => csOf_take H n (k := k))
    have HGet := Lib.hid (fun (W : World) (ho : HOwn base W g m H R) (k : Nat) (hk : k < (rowOf H n).length) => get_agg ho HF.out n (k : Int) h1 h2 (by omega) (by omega))
    have HOf := Lib.hid (fun (W : World) (ho : HOwn base W g m H R) => of_any ho HF.out 2 n h1 h2)
    clear hr he e h hB0
    obtain ⟨cs, hcs⟩ : ∃ cs, csOf H n = cs := ⟨_, rfl⟩
    have hcl : cs.length = (rowOf H n).length := by rw [← hcs, csOf_length]
    rw [hcs] at HCT ⊢
    have HCL := Lib.hid hcl
    clear hcs hcl
    generalize rowOf H n = row at *
    go_enter Try.func19, Try.ntmps19
    go_upto_region 1 with (fail)
    generalize hw1 : w.alloc (.cells #[.int .i64 2, .int .i64 n] 32) = w1 at *
    clear hw1
    have z0 := Q0.out
    have z1 := Q1.out
    go_upto_region 5 with (go_at_call 40; refine HR.out.mono ?_; rintro e w2 ⟨rfl, hb⟩; have HB1 := Lib.hid hb; have HO2 := Lib.hid (HO.out.below hb); have y0 := pw_cell_below hb Q0.out; have y1 := pw_cell_below hb Q1.out; clear hb)
    go_wp2_with (go_at_call 41; refine (HOf.out _ HO2.out).mono ?_; rintro e w3 ⟨Ao, co, rfl, hco, hCo, hb⟩; have HB3 := Lib.hid (below_then HB1.out HB1.out.size hb); clear hb hCo)
    go_loopw [19, 7] (fun i v7 W => ∃ (k : Nat) (v : Value), i = .int .i64 k ∧ v = v7 ∧ k ≤ row.length ∧ Aside0 (Kd.R k32 32 W w1.heap.size (fun _ => True) v (cs.take k)) ∧ Aside0 (Below w1.heap.size w1 W)) (fun i _ _ => row.length - (intOf i).toNat)
    case atStart => exact ⟨0, _, rfl, rfl, Nat.zero_le _, Aside0.mk (Kd.R_nil _ _ _ _ _), Aside0.mk HB3.out⟩
    case round =>
      clear HB3 HB1 HO2 y0 y1 z0 z1
      obtain ⟨k, v, rfl, rfl, hk, HRw, HB⟩ := hrel
      by_cases hkl : k < row.length
      · have hkl' : ((k : Int) < (row.length : Int)) := by omega
        have HGk := Lib.hid (HGet.out wr (HO.out.below HB.out) k hkl)
        have hct := HCT.out k hkl
        have HXL := Lib.hid (show (cs.take k).length = k by rw [List.length_take, HCL.out]; omega)
        generalize getC H n (k : Int) = p at *
        obtain ⟨pa, pb⟩ := p
        simp only at HGk hct
        have HCk := Lib.hid hct
        clear hct
        generalize cs.take k = xs at *
        have y0 := pw_cell_below HB.out Q0.out
        have y1 := pw_cell_below HB.out Q1.out
        go_wp2_with (first | (go_at_call 39; refine HGk.out.mono ?_; rintro e w4 ⟨rfl, hb⟩; have HB4 := Lib.hid (below_then HB.out HB.out.size hb); have HR4 := Lib.hid (Kd.R_below HRw.out hb); clear hb) | ((with_reducible refine gate_builtin (b := .append) (xs := #[.tmp 22, .tmp 27]) rfl ?_); at_builtin; refine Kd.R_append k32 (w0 := w1) w1.heap.size rfl (.tmp 22) (.tmp 27) 52 32 (.agg #[.int .i64 0, .int .i64 0]) 16 rfl Try.underlying52 info32 rfl (by decide) (by decide) v xs ⟨pa, pb⟩ [.int .i64 pa, .int .i64 pb] (fun _ => True) (fun _ => False) rfl rfl (k32_mkM _ _ _ ⟨pa, pb⟩) (fun _ h => h.elim) (fun _ _ => trivial) HR4.out HB4.out HB4.out.size (by rw [HXL.out]; omega) ?_; intro v5 w5 hR5 hB5 _ _; have HR5 := Lib.hid hR5; have HB5 := Lib.hid hB5; clear hR5 hB5))
        go_roundw
        case rel => exact ⟨k + 1, _, by go_num, rfl, by omega, Aside0.mk (by rw [HCk.out]; exact HR5.out), Aside0.mk HB5.out⟩
        case measure => simp [intOf]; omega
      · obtain rfl : k = row.length := by omega
        go_wp2
        go_ret2
        refine ⟨_, rfl, Kd.R_lower (by have h3 := HRw.out; rwa [List.take_of_length_le (by rw [HCL.out]; exact Nat.le_refl _)] at h3) HSZ.out, below_then HB0.out HB0.out.size HB.out⟩
end Go.Proofs.Ytnomjjhocblkkaa
