/- begun: the chapter's heap. -/
import Derived.Test.YtnomjjhocblkkaaJd
namespace Go.Proofs.Ytnomjjhocblkkaa
open Go.RowKit Go.Shelf Go.Proofs.YtnomjjhocblkkaaW.PrintWords Go.Proofs.YtnomjjhocblkkaaW.PrintLast Go.Proofs.YtnomjjhocblkkaaW.PrintMore
open Go.Proofs.Ytnomjjhocblkkaa.PHeapSound

theorem int_C {W : World} {g : Nat} {ty : TypeId} (xs : List Int) (h : W.heap[g]? = some (.cells (xs.map (Value.int .i64)).toArray ty (0, 0))) (hl : xs.length ≤ 1000) : (Kd.int .i64).C W (some ⟨g, 0, none⟩) xs.length xs := by
  refine Kd.C_of_reads (enc := Value.int .i64) (d := (0 : Int)) (h1 := fun _ => rfl) ⟨rfl, by omega, fun _ => ⟨_, rfl, fun j hj => ?_⟩⟩
  rw [Addr.add_lit, blk_cell h]
  simp [List.getD_eq_getElem?_getD, hj]

theorem begun_C (w : World) : (Kd.slice 3 (Kd.int .i64)).C (((w.alloc (.cells #[.int .i64 1, .int .i64 2] 3)).alloc (.cells #[.int .i64 3] 3)).alloc (.cells #[.slice (some ⟨w.heap.size, 0, none⟩) 2 2, .slice (some ⟨w.heap.size + 1, 0, none⟩) 1 1] 39)) (some ⟨w.heap.size + 1 + 1, 0, none⟩) 2 [[1, 2], [3]] := by
  have e2 := World.alloc_heap_new ((w.alloc (.cells #[.int .i64 1, .int .i64 2] 3)).alloc (.cells #[.int .i64 3] 3)) (.cells #[.slice (some ⟨w.heap.size, 0, none⟩) 2 2, .slice (some ⟨w.heap.size + 1, 0, none⟩) 1 1] 39)
  have e1 := (World.alloc_heap_old' ((w.alloc (.cells #[.int .i64 1, .int .i64 2] 3)).alloc (.cells #[.int .i64 3] 3)) (.cells #[.slice (some ⟨w.heap.size, 0, none⟩) 2 2, .slice (some ⟨w.heap.size + 1, 0, none⟩) 1 1] 39) (i := w.heap.size + 1) (by simp)).trans
    (show _ = some (.cells #[.int .i64 3] 3) by have := World.alloc_heap_new (w.alloc (.cells #[.int .i64 1, .int .i64 2] 3)) (.cells #[.int .i64 3] 3); rwa [World.size_alloc] at this)
  have e0 := (World.alloc_heap_old' ((w.alloc (.cells #[.int .i64 1, .int .i64 2] 3)).alloc (.cells #[.int .i64 3] 3)) (.cells #[.slice (some ⟨w.heap.size, 0, none⟩) 2 2, .slice (some ⟨w.heap.size + 1, 0, none⟩) 1 1] 39) (i := w.heap.size) (by simp; omega)).trans
    ((World.alloc_heap_old' (w.alloc (.cells #[.int .i64 1, .int .i64 2] 3)) (.cells #[.int .i64 3] 3) (i := w.heap.size) (by simp)).trans (World.alloc_heap_new w _))
  rw [World.size_alloc, World.size_alloc] at e2
  generalize ((w.alloc (.cells #[.int .i64 1, .int .i64 2] 3)).alloc (.cells #[.int .i64 3] 3)).alloc (.cells #[.slice (some ⟨w.heap.size, 0, none⟩) 2 2, .slice (some ⟨w.heap.size + 1, 0, none⟩) 1 1] 39) = W at *
  refine ⟨rfl, by omega, fun _ => ⟨_, rfl, fun j p hj => ?_⟩⟩
  match j, hj with
  | 0, hj =>
    cases hj
    refine ⟨[.slice (some ⟨w.heap.size, 0, none⟩) 2 2], rfl, ⟨_, 2, rfl, Nat.le_refl _, int_C [1, 2] e0 (by decide)⟩, fun i u hu => ?_⟩
    match i, hu with
    | 0, hu =>
      cases hu
      exact blk_cell e2 0
  | 1, hj =>
    cases hj
    refine ⟨[.slice (some ⟨w.heap.size + 1, 0, none⟩) 1 1], rfl, ⟨_, 1, rfl, Nat.le_refl _, int_C [3] e1 (by decide)⟩, fun i u hu => ?_⟩
    match i, hu with
    | 0, hu =>
      cases hu
      exact blk_cell e2 1

set_option maxRecDepth 100000 in
set_option maxHeartbeats 1000000 in
theorem begun_any (w : World) : Calls Try.prog 27 #[] w fun e w' => ∃ g m R, e = .returned (.pointer (some ⟨g, 0, none⟩)) ∧ HOwn w.heap.size w' g m ⟨[[1, 2], [3]], 3, 0, [], []⟩ R ∧ (∀ i, R i → w.heap.size ≤ i) ∧ Below w.heap.size w w' := by
  have hn := New_any _ (some ⟨w.heap.size + 1 + 1, 0, none⟩) 2 [[1, 2], [3]] 3 (begun_C w) (by decide)
  have hB : Below w.heap.size w (((w.alloc (.cells #[.int .i64 1, .int .i64 2] 3)).alloc (.cells #[.int .i64 3] 3)).alloc (.cells #[.slice (some ⟨w.heap.size, 0, none⟩) 2 2, .slice (some ⟨w.heap.size + 1, 0, none⟩) 1 1] 39)) :=
    (((Below.refl w.heap.size w).alloc (Nat.le_refl _) _).alloc (by simp) _).alloc (by simp; omega) _
  have HB := Lib.hid hB
  have HN := Lib.hid hn
  clear hn hB
  go_enter Try.func27, Try.ntmps27
  go_wp2_with (go_at_call 9; refine HN.out.mono ?_; rintro e w3 ⟨g, m, R, rfl, ho, hR, hb⟩; have HO := Lib.hid ho; have HR := Lib.hid hR; have HB3 := Lib.hid hb; clear ho hR hb)
  go_ret
  have hs := HB.out.size
  exact ⟨g, m, R, rfl, ⟨HO.out.ex, HO.out.ng, HO.out.nm, HO.out.lt, Nat.le_trans hs HO.out.lo.1, Nat.le_trans hs HO.out.lo.2⟩, fun i hi => Nat.le_trans hs (HR.out i hi), below_then HB.out hs HB3.out⟩
end Go.Proofs.Ytnomjjhocblkkaa
