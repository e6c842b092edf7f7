/- What may be wrong with a cell: the three tests, the iterator's maker, and 'wrong'. -/
import Derived.Test.YtnomjjhocblkkaaHe
import Derived.Deep.RegionHeld3
namespace Go.Proofs.Ytnomjjhocblkkaa
open Go.RowKit Go.Shelf Go.Proofs.YtnomjjhocblkkaaW.PrintWords Go.Proofs.YtnomjjhocblkkaaW.PrintLast Go.Proofs.YtnomjjhocblkkaaW.PrintMore
open Go.Proofs.Ytnomjjhocblkkaa.PHeapSound

theorem HFit.rowlen {H : HM} (hf : HFit H) {n : Int} (h1 : 1 ≤ n) (h2 : n ≤ H.objs.length) : (rowOf H n).length ≤ 16 := by
  unfold rowOf rd_L1
  obtain ⟨o0, o1⟩ := hf.obj h1 h2
  rw [List.getD_eq_getElem?_getD, List.getElem?_eq_getElem (by omega)]
  exact hf.row _ (List.getElem_mem _)

theorem c63_any (w : World) (br : Nat) (n : Int) (hb : w.heap[br]? = some (.cells #[.int .i64 2, .int .i64 n] 32 (0, 0))) :
    Calls Try.prog 63 #[.pointer (some ⟨br, 0, none⟩)] w fun e w' => e = .returned (.bool (n == 0)) ∧ Below w.heap.size w w' := by
  have q0 := blk_cell hb 0
  have q1 := blk_cell hb 1
  simp only [List.getElem?_toArray, List.getElem?_cons_zero, List.getElem?_cons_succ] at q0 q1
  clear hb
  go_enter Try.func63, Try.ntmps63
  go_wp2_with (go_at_call 56; refine (nil_any n _).mono ?_; rintro e w1 ⟨rfl, hb⟩)
  go_ret
  exact ⟨rfl, hb⟩

set_option maxRecDepth 100000 in
set_option maxHeartbeats 1000000 in
theorem c64_any {base : Nat} {w : World} {g m : Nat} {H : HM} {R : Nat → Prop} (h : HOwn base w g m H R) (hf : HFit H) (bi bh br : Nat) (n i : Int) (h1 : 1 ≤ n) (h2 : n ≤ H.objs.length)
    (b1 : Boxed w bi 3 (.int .i64 i)) (b2 : Boxed w bh 25 (.pointer (some ⟨g, 0, none⟩))) (b3 : w.heap[br]? = some (.cells #[.int .i64 2, .int .i64 n] 32 (0, 0))) :
    Calls Try.prog 64 #[.pointer (some ⟨bi, 0, none⟩), .pointer (some ⟨bh, 0, none⟩), .pointer (some ⟨br, 0, none⟩)] w fun e w' => e = .returned (.bool (decide (i < 0) || decide (((rowOf H n).length : Int) ≤ i))) ∧ Below w.heap.size w w' := by
  have c1 := b1.cell
  have c2 := b2.cell
  have q0 := blk_cell b3 0
  have q1 := blk_cell b3 1
  simp only [List.getElem?_toArray, List.getElem?_cons_zero, List.getElem?_cons_succ] at q0 q1
  by_cases hi : i < 0
  · have hi' : decide (i < 0) = true := decide_eq_true hi
    clear b1 b2 b3
    go_enter Try.func64, Try.ntmps64
    go_wp2
    go_quiet (fail)
    go_wp2
    go_ret
    exact ⟨by simp [hi], pw_below_drewN (Below.refl _ _) _⟩
  · have hi' : decide (i < 0) = false := decide_eq_false hi
    have ho := of_any (h.below (below_drew (Below.refl _ _))) hf 2 n h1 h2
    have HO := Lib.hid ho
    have d1 : w.drew.cell? ⟨bi, 0, none⟩ = some (.int .i64 i) := c1
    have d2 : w.drew.cell? ⟨bh, 0, none⟩ = some (.pointer (some ⟨g, 0, none⟩)) := c2
    have d3 : w.drew.cell? ⟨br, 0, none⟩ = some (.int .i64 2) := q0
    have d4 : w.drew.cell? ⟨br, 1, none⟩ = some (.int .i64 n) := q1
    have hlen := hf.rowlen h1 h2
    generalize rowOf H n = row at *
    have HI := Lib.hid hi
    clear b1 b2 b3 ho h hf h1 h2 hi
    go_enter Try.func64, Try.ntmps64
    go_wp2
    go_region_held3 (fun w' => w'.cell? ⟨bi, 0, none⟩ = some (.int .i64 i) ∧ w'.cell? ⟨bh, 0, none⟩ = some (.pointer (some ⟨g, 0, none⟩)) ∧ w'.cell? ⟨br, 0, none⟩ = some (.int .i64 2) ∧ w'.cell? ⟨br, 1, none⟩ = some (.int .i64 n)) (go_keep)
      ((go_at_call 41; refine HO.out.mono ?_; rintro e w1 ⟨A, c, rfl, hlc, hC, hb⟩; have HB1 := Lib.hid hb; have z1 := pw_cell_below hb d1; have z2 := pw_cell_below hb d2; have z3 := pw_cell_below hb d3; have z4 := pw_cell_below hb d4; clear hlc hC hb))
    go_wp2
    go_ret
    exact ⟨by simp [hi'], (below_drew (Below.refl _ w)).trans HB1.out⟩

set_option maxRecDepth 100000 in
set_option maxHeartbeats 1000000 in
theorem c65_any {base : Nat} {w : World} {g m : Nat} {H : HM} {R : Nat → Prop} (h : HOwn base w g m H R) (hf : HFit H) (bi bh br bt : Nat) (n i t : Int) (h1 : 1 ≤ n) (h2 : n ≤ H.objs.length) (h3 : 0 ≤ i) (h4 : i < (rowOf H n).length)
    (b1 : Boxed w bi 3 (.int .i64 i)) (b2 : Boxed w bh 25 (.pointer (some ⟨g, 0, none⟩))) (b3 : w.heap[br]? = some (.cells #[.int .i64 2, .int .i64 n] 32 (0, 0))) (b4 : Boxed w bt 3 (.int .i64 t)) :
    Calls Try.prog 65 #[.pointer (some ⟨bh, 0, none⟩), .pointer (some ⟨br, 0, none⟩), .pointer (some ⟨bi, 0, none⟩), .pointer (some ⟨bt, 0, none⟩)] w fun e w' => e = .returned (.bool (rd (rowOf H n) i != t)) ∧ Below w.heap.size w w' := by
  have d1 : w.drew.cell? ⟨bi, 0, none⟩ = some (.int .i64 i) := b1.cell
  have d2 : w.drew.cell? ⟨bh, 0, none⟩ = some (.pointer (some ⟨g, 0, none⟩)) := b2.cell
  have d5 : w.drew.cell? ⟨bt, 0, none⟩ = some (.int .i64 t) := b4.cell
  have q0 := blk_cell b3 0
  have q1 := blk_cell b3 1
  simp only [List.getElem?_toArray, List.getElem?_cons_zero, List.getElem?_cons_succ] at q0 q1
  have d3 : w.drew.cell? ⟨br, 0, none⟩ = some (.int .i64 2) := q0
  have d4 : w.drew.cell? ⟨br, 1, none⟩ = some (.int .i64 n) := q1
  obtain ⟨A, c, hlc, hC, ho⟩ := of_at (h.below (below_drew (Below.refl _ _))) hf 2 n h1 h2
  have HO := Lib.hid ho
  have hlen := hf.rowlen h1 h2
  obtain ⟨k, rfl⟩ := Int.eq_ofNat_of_zero_le h3
  obtain ⟨ad, rfl, d6⟩ := Kd.at_int hC (k : Int) (by omega) (by omega)
  rw [Int.toNat_natCast] at d6
  generalize rowOf H n = row at *
  clear b1 b2 b3 b4 ho h hf h1 h2 q0 q1 h3 hC hlc
  go_enter Try.func65, Try.ntmps65
  go_wp2
  go_region_held3 (fun w' => w'.cell? ⟨bi, 0, none⟩ = some (.int .i64 k) ∧ w'.cell? ⟨bh, 0, none⟩ = some (.pointer (some ⟨g, 0, none⟩)) ∧ w'.cell? ⟨br, 0, none⟩ = some (.int .i64 2) ∧ w'.cell? ⟨br, 1, none⟩ = some (.int .i64 n) ∧ w'.cell? ⟨bt, 0, none⟩ = some (.int .i64 t) ∧ w'.cell? (ad.add k) = some (.int .i64 (rd row k))) (go_keep)
    ((go_at_call 41; refine HO.out.mono ?_; rintro e w1 ⟨rfl, hb⟩; have HB1 := Lib.hid hb; have z1 := pw_cell_below hb d1; have z2 := pw_cell_below hb d2; have z3 := pw_cell_below hb d3; have z4 := pw_cell_below hb d4; have z5 := pw_cell_below hb d5; have z6 := pw_cell_below hb d6; clear hb))
  go_wp2
  go_ret
  exact ⟨by simp, (below_drew (Below.refl _ w)).trans HB1.out⟩

theorem six_allocs (w : World) (X0 X1 X2 X3 X4 X5 : Obj) : (((((((w.alloc X0).alloc X1).alloc X2).alloc X3).alloc X4).alloc X5).heap[w.heap.size]? = some X0) ∧ (((((((w.alloc X0).alloc X1).alloc X2).alloc X3).alloc X4).alloc X5).heap[w.heap.size + 1]? = some X1) ∧
    (((((((w.alloc X0).alloc X1).alloc X2).alloc X3).alloc X4).alloc X5).heap[w.heap.size + 2]? = some X2) ∧ (((((((w.alloc X0).alloc X1).alloc X2).alloc X3).alloc X4).alloc X5).heap[w.heap.size + 3]? = some X3) ∧
    (((((((w.alloc X0).alloc X1).alloc X2).alloc X3).alloc X4).alloc X5).heap[w.heap.size + 4]? = some X4) ∧ (((((((w.alloc X0).alloc X1).alloc X2).alloc X3).alloc X4).alloc X5).heap[w.heap.size + 5]? = some X5) ∧
    Below w.heap.size w ((((((w.alloc X0).alloc X1).alloc X2).alloc X3).alloc X4).alloc X5) := by
  have e : ((((((w.alloc X0).alloc X1).alloc X2).alloc X3).alloc X4).alloc X5).heap = (((((w.heap.push X0).push X1).push X2).push X3).push X4).push X5 := rfl
  rw [e]
  refine ⟨?_, ?_, ?_, ?_, ?_, ?_, ?_⟩
  all_goals try (simp only [Array.getElem?_push, Array.size_push]; repeat' (first | rfl | omega | (split <;> try omega)))
  exact (((((((Below.refl w.heap.size w).alloc (Nat.le_refl _) X0).alloc (by simp) X1).alloc (by simp; omega) X2).alloc (by simp; omega) X3).alloc (by simp; omega) X4).alloc (by simp; omega) X5)

theorem troubles_any (w : World) (g : Nat) (n i t : Int) :
    Calls Try.prog 55 #[.pointer (some ⟨g, 0, none⟩), .agg #[.int .i64 2, .int .i64 n], .int .i64 i, .int .i64 t] w fun e w' => ∃ bh br bi bt bs ba, e = .returned (.func (.func 66) #[] #[.pointer (some ⟨ba, 0, none⟩)]) ∧
      Boxed w' bh 25 (.pointer (some ⟨g, 0, none⟩)) ∧ w'.heap[br]? = some (.cells #[.int .i64 2, .int .i64 n] 32 (0, 0)) ∧ Boxed w' bi 3 (.int .i64 i) ∧ Boxed w' bt 3 (.int .i64 t) ∧
      w'.heap[bs]? = some (.cells #[.int .i64 1, trFn bh br bi bt 0, .int .i64 3, trFn bh br bi bt 1, .int .i64 5, trFn bh br bi bt 2] 101 (0, 0)) ∧ w'.heap[ba]? = some (.cells #[.slice (some ⟨bs, 0, none⟩) 3 3] 106 (0, 0)) ∧ Below w.heap.size w w' ∧ ∀ k ∈ [bh, br, bi, bt, bs, ba], w.heap.size ≤ k := by
  go_enter Try.func55, Try.ntmps55
  go_wp2
  go_ret
  obtain ⟨h0, h1, h2, h3, h4, h5, hb⟩ := six_allocs w (.cells #[.pointer (some ⟨g, 0, none⟩)] 25) (.cells #[.int .i64 2, .int .i64 n] 32) (.cells #[.int .i64 i] 3) (.cells #[.int .i64 t] 3) (.cells #[.int .i64 1, trFn w.heap.size (w.heap.size + 1) (w.heap.size + 2) (w.heap.size + 3) 0, .int .i64 3, trFn w.heap.size (w.heap.size + 1) (w.heap.size + 2) (w.heap.size + 3) 1, .int .i64 5, trFn w.heap.size (w.heap.size + 1) (w.heap.size + 2) (w.heap.size + 3) 2] 101) (.cells #[.slice (some ⟨w.heap.size + 4, 0, none⟩) 3 3] 106)
  exact ⟨w.heap.size, w.heap.size + 1, w.heap.size + 2, w.heap.size + 3, w.heap.size + 4, w.heap.size + 5, rfl, h0, h1, h2, h3, h4, h5, hb, by simp⟩
end Go.Proofs.Ytnomjjhocblkkaa
