/- Calls on no heap: a nil one, or one that New did not make. -/
import Derived.Test.YtnomjjhocblkkaaNa
namespace Go.Proofs.Ytnomjjhocblkkaa
open Go.RowKit Go.Shelf Go.Proofs.YtnomjjhocblkkaaW.PrintWords Go.Proofs.YtnomjjhocblkkaaW.PrintLast Go.Proofs.YtnomjjhocblkkaaW.PrintMore
open Go.Proofs.Ytnomjjhocblkkaa.PHeapSound

/-- No heap. -/
def NoneAt (w : World) (p : Option Addr) : Prop := p = none ∨ ∃ z, p = some ⟨z, 0, none⟩ ∧ w.cell? ⟨z, 4, none⟩ = some (.map none)
theorem NoneAt.below {w W : World} {p : Option Addr} (h : NoneAt w p) (hb : Below w.heap.size w W) : NoneAt W p := by
  rcases h with h | ⟨z, h1, h2⟩
  · exact .inl h
  · exact .inr ⟨z, h1, pw_cell_below hb h2⟩
theorem none_no {w : World} {p : Option Addr} (h : NoneAt w p) : Calls Try.prog 35 #[.pointer p] w fun e w' => e = .returned (.bool true) ∧ w = w' := by
  rcases h with rfl | ⟨z, rfl, h2⟩
  · exact none_nil w
  · exact none_zero w z h2

section
variable {w : World} {p : Option Addr} (h : NoneAt w p)
include h

theorem Len_no : Calls Try.prog 12 #[.pointer p] w fun e w' => e = .returned (.int .i64 0) ∧ w = w' := by
  have HN := Lib.hid (none_no h)
  clear h
  go_enter Try.func12, Try.ntmps12
  go_wp2_with (go_at_call 35; refine HN.out.mono ?_; rintro e w' ⟨rfl, rfl⟩)
  go_ret
  exact ⟨rfl, rfl⟩
theorem Used_no : Calls Try.prog 14 #[.pointer p] w fun e w' => e = .returned (.int .i64 0) ∧ w = w' := by
  have HN := Lib.hid (none_no h)
  clear h
  go_enter Try.func14, Try.ntmps14
  go_wp2_with (go_at_call 35; refine HN.out.mono ?_; rintro e w' ⟨rfl, rfl⟩)
  go_ret
  exact ⟨rfl, rfl⟩
theorem Left_no : Calls Try.prog 22 #[.pointer p] w fun e w' => e = .returned (.int .i64 0) ∧ w = w' := by
  have HN := Lib.hid (none_no h)
  clear h
  go_enter Try.func22, Try.ntmps22
  go_wp2_with (go_at_call 35; refine HN.out.mono ?_; rintro e w' ⟨rfl, rfl⟩)
  go_ret
  exact ⟨rfl, rfl⟩
theorem Copy_no : Calls Try.prog 30 #[.pointer p] w fun e w' => e = .returned (.pointer none) ∧ w = w' := by
  have HN := Lib.hid (none_no h)
  clear h
  go_enter Try.func30, Try.ntmps30
  go_wp2_with (go_at_call 35; refine HN.out.mono ?_; rintro e w' ⟨rfl, rfl⟩)
  go_ret
  exact ⟨rfl, rfl⟩
theorem Held_no (t n : Int) : Calls Try.prog 21 #[.pointer p, .agg #[.int .i64 t, .int .i64 n]] w fun e w' => e = .returned (.bool false) ∧ Below w.heap.size w w' := by
  have hB0 := below_alloc (Below.refl w.heap.size w) (.cells #[.int .i64 t, .int .i64 n] 32)
  have HB0 := Lib.hid hB0
  have HN := Lib.hid (none_no (h.below hB0))
  clear h hB0
  go_enter Try.func21, Try.ntmps21
  go_wp2_with (go_at_call 35; refine HN.out.mono ?_; rintro e w' ⟨rfl, rfl⟩)
  go_ret
  exact ⟨rfl, HB0.out⟩
theorem ready_no (t n : Int) : Calls Try.prog 37 #[.pointer p, .agg #[.int .i64 t, .int .i64 n]] w fun e w' => e = .returned (.int .i64 1) ∧ Below w.heap.size w w' := by
  have hB0 := below_alloc (Below.refl w.heap.size w) (.cells #[.int .i64 t, .int .i64 n] 32)
  have HB0 := Lib.hid hB0
  have HN := Lib.hid (none_no (h.below hB0))
  clear h hB0
  go_enter Try.func37, Try.ntmps37
  go_wp2_with (go_at_call 35; refine HN.out.mono ?_; rintro e w' ⟨rfl, rfl⟩)
  go_ret
  exact ⟨rfl, HB0.out⟩
theorem object_no (t n : Int) : Calls Try.prog 40 #[.pointer p, .agg #[.int .i64 t, .int .i64 n]] w fun e w' => e = .returned (.int .i64 1) ∧ Below w.heap.size w w' := by
  have hB0 := below_alloc (Below.refl w.heap.size w) (.cells #[.int .i64 t, .int .i64 n] 32)
  have HB0 := Lib.hid hB0
  have HN := Lib.hid (ready_no (h.below hB0) t n)
  clear h hB0
  go_enter Try.func40, Try.ntmps40
  go_wp2_with (go_at_call 37; refine HN.out.mono ?_; rintro e w1 ⟨rfl, hb⟩; have HB1 := Lib.hid (below_then HB0.out HB0.out.size hb); clear hb)
  go_ret
  exact ⟨rfl, HB1.out⟩
theorem Shape_no (t n : Int) : Calls Try.prog 18 #[.pointer p, .agg #[.int .i64 t, .int .i64 n]] w fun e w' => e = .returned (.tuple #[.int .i64 0, .int .i64 1]) ∧ Below w.heap.size w w' := by
  have hB0 := below_alloc (Below.refl w.heap.size w) (.cells #[.int .i64 t, .int .i64 n] 32)
  have HB0 := Lib.hid hB0
  have HN := Lib.hid (object_no (h.below hB0) t n)
  clear h hB0
  go_enter Try.func18, Try.ntmps18
  go_wp2_with (go_at_call 40; refine HN.out.mono ?_; rintro e w1 ⟨rfl, hb⟩; have HB1 := Lib.hid (below_then HB0.out HB0.out.size hb); clear hb)
  go_ret2
  exact ⟨rfl, HB1.out⟩
theorem Cells_no (t n : Int) : Calls Try.prog 19 #[.pointer p, .agg #[.int .i64 t, .int .i64 n]] w fun e w' => e = .returned (.tuple #[.slice none 0 0, .int .i64 1]) ∧ Below w.heap.size w w' := by
  have hB0 := below_alloc (Below.refl w.heap.size w) (.cells #[.int .i64 t, .int .i64 n] 32)
  have HB0 := Lib.hid hB0
  have HN := Lib.hid (object_no (h.below hB0) t n)
  clear h hB0
  go_enter Try.func19, Try.ntmps19
  go_wp2_with (go_at_call 40; refine HN.out.mono ?_; rintro e w1 ⟨rfl, hb⟩; have HB1 := Lib.hid (below_then HB0.out HB0.out.size hb); clear hb)
  go_ret2
  exact ⟨rfl, HB1.out⟩
theorem Set_no (t n i vt vv : Int) : Calls Try.prog 13 #[.pointer p, .agg #[.int .i64 t, .int .i64 n], .int .i64 i, .agg #[.int .i64 vt, .int .i64 vv]] w fun e w' => e = .returned (.tuple #[.int .i64 0, .int .i64 1]) ∧ Below w.heap.size w w' := by
  have hB0 : Below w.heap.size w ((w.alloc (.cells #[.int .i64 t, .int .i64 n] 32)).alloc (.cells #[.int .i64 vt, .int .i64 vv] 32)) := ((Below.refl w.heap.size w).alloc (Nat.le_refl _) _).alloc (by simp) _
  have HB0 := Lib.hid hB0
  have HN := Lib.hid (ready_no (h.below hB0) t n)
  clear h hB0
  go_enter Try.func13, Try.ntmps13
  go_wp2_with (go_at_call 37; refine HN.out.mono ?_; rintro e w1 ⟨rfl, hb⟩; have HB1 := Lib.hid (below_then HB0.out HB0.out.size hb); clear hb)
  go_ret2
  exact ⟨rfl, HB1.out⟩
set_option maxRecDepth 100000 in
theorem Make_no (n : Int) : Calls Try.prog 11 #[.pointer p, .int .i64 n] w fun e w' => e = .returned (.tuple #[.agg #[.int .i64 0, .int .i64 0], .int .i64 1]) ∧ Below w.heap.size w w' := by
  have hB0 := below_alloc (Below.refl w.heap.size w) (.cells #[.int .i64 0, .int .i64 0] 32)
  have HB0 := Lib.hid hB0
  have HN := Lib.hid (none_no (h.below hB0))
  have hx := World.alloc_heap_new w (.cells #[.int .i64 0, .int .i64 0] 32)
  have HX := Lib.hid hx
  clear h hB0 hx
  go_enter Try.func11, Try.ntmps11
  go_wp2_with (go_at_call 35; refine HN.out.mono ?_; rintro e w' ⟨rfl, rfl⟩)
  exact bodyPost_ret (v := .tuple #[.agg #[.int .i64 0, .int .i64 0], .int .i64 1]) (by simp [results, Try.results11, go_sem]) rfl ⟨rfl, HB0.out⟩
set_option maxRecDepth 100000 in
theorem Get_no (t n i tt : Int) : Calls Try.prog 15 #[.pointer p, .agg #[.int .i64 t, .int .i64 n], .int .i64 i, .int .i64 tt] w fun e w' => e = .returned (.tuple #[.agg #[.int .i64 0, .int .i64 0], .int .i64 0, .int .i64 1]) ∧ Below w.heap.size w w' := by
  have hB1 : Below w.heap.size w ((w.alloc (.cells #[.int .i64 t, .int .i64 n] 32)).alloc (.cells #[.int .i64 0, .int .i64 0] 32)) := ((Below.refl w.heap.size w).alloc (Nat.le_refl _) _).alloc (by simp) _
  have HB1 := Lib.hid hB1
  have e6 := World.alloc_heap_new (w.alloc (.cells #[.int .i64 t, .int .i64 n] 32)) (.cells #[.int .i64 0, .int .i64 0] 32)
  rw [World.size_alloc] at e6
  have HE1 := Lib.hid e6
  have HR := Lib.hid (ready_no (h.below hB1) t n)
  clear h hB1 e6
  go_enter Try.func15, Try.ntmps15
  go_wp2_with (go_at_call 37; refine HR.out.mono ?_; rintro e w2 ⟨rfl, hb⟩; have HB2 := Lib.hid (below_then HB1.out HB1.out.size hb); have E := (hb.block (w.heap.size + 1) (blk_lt HE1.out)).trans HE1.out; have HE2 := Lib.hid E; have a0 := blk_cell E 0; have a1 := blk_cell E 1; have a2 := blk_frozen E 0; have a3 := blk_frozen E 1; simp only [List.getElem?_toArray, List.getElem?_cons_zero, List.getElem?_cons_succ] at a0 a1; clear E hb)
  have F := blk_set HE2.out 0 (.int .i64 (0))
  have G := blk_set F 1 (.int .i64 (0))
  simp only [List.setIfInBounds_toArray, List.set_cons_zero, List.set_cons_succ] at G
  have y0 := blk_cell G 0
  have y1 := blk_cell G 1
  simp only [List.getElem?_toArray, List.getElem?_cons_zero, List.getElem?_cons_succ] at y0 y1
  refine bodyPost_ret (v := .tuple #[.agg #[.int .i64 (0), .int .i64 (0)], .int .i64 (0), .int .i64 (1)]) (by simp [results, Try.results15, go_sem, y0, y1]) rfl ⟨rfl, (HB2.out.setCell (by simp) _).setCell (by simp) _⟩
end
end Go.Proofs.Ytnomjjhocblkkaa
