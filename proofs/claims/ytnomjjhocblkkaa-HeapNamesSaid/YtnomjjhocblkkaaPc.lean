/- Small lemmas for HeapNames' walk. -/
import Derived.Test.YtnomjjhocblkkaaPb
namespace Go.Proofs.Ytnomjjhocblkkaa
open Go.RowKit Go.Shelf Go.Proofs.YtnomjjhocblkkaaW.PrintWords Go.Proofs.YtnomjjhocblkkaaW.PrintLast Go.Proofs.YtnomjjhocblkkaaW.PrintMore
open Go.Proofs.Ytnomjjhocblkkaa.PHeapSound

theorem fr_after {S : Nat → Prop} {b : Nat} {X W W' : World} {g m : Nat} {H : HM} {R : Nat → Prop} (h : Fr S W W') (_ho : HOwn b X g m H R) (hb : Below X.heap.size X W) : Fr S X W' := (Fr.of_below (S := S) hb).trans h (fun _ _ e => e)
theorem below_of_drew {W W' : World} {n : Nat} (h : W' = W.drewN n) : Below W.heap.size W W' := h ▸ pw_below_drewN (Below.refl _ _) n
theorem NoneAt.nil (w : World) : NoneAt w none := .inl rfl
theorem alloc_at (W : World) (o : Obj) : (W.alloc o).heap[W.heap.size]? = some o := World.alloc_heap_new W o
theorem alloc_atd (W : World) (o : Obj) : (W.alloc o).drew.heap[W.heap.size]? = some o := World.alloc_heap_new W o
theorem two_C {W : World} {b : Nat} (h : W.heap[b]? = some (.cells #[.int .i64 1, .int .i64 (-9), .int .i64 2, .int .i64 1] 32 (0, 0))) : Kd.C k32 W (some ⟨b, 0, none⟩) 2 [⟨1, -9⟩, ⟨2, 1⟩] := by
  refine ⟨rfl, by simp, fun _ => ⟨_, rfl, fun j p hj => ?_⟩⟩
  match j, hj with
  | 0, hj =>
    cases hj
    refine ⟨_, rfl, k32_mk W ⟨1, -9⟩, fun i u hu => ?_⟩
    match i, hu with
    | 0, hu => cases hu; exact blk_cell h 0
    | 1, hu => cases hu; exact blk_cell h 1
  | 1, hj =>
    cases hj
    refine ⟨_, rfl, k32_mk W ⟨2, 1⟩, fun i u hu => ?_⟩
    match i, hu with
    | 0, hu => cases hu; exact blk_cell h 2
    | 1, hu => cases hu; exact blk_cell h 3
theorem Same2 (A : Option Addr) (c : Nat) (A1 : Option Addr) (c1 : Nat) (w : World) (hC : Kd.C k32 w A 2 [⟨1, -9⟩, ⟨2, 1⟩]) (hC1 : Kd.C k32 w A1 2 [⟨1, -9⟩, ⟨2, 1⟩]) :
    Calls Try.prog 29 #[.slice A 2 c, .slice A1 2 c1] w fun e w' => e = .returned (.bool true) ∧ Below w.heap.size w w' := Same_true A c A1 c1 [⟨1, -9⟩, ⟨2, 1⟩] w hC hC1 (by decide)
theorem nCells1' {base : Nat} {W : World} {g m : Nat} {R : Nat → Prop} (h : HOwn base W g m nH3 R) : Calls Try.prog 19 #[.pointer (some ⟨g, 0, none⟩), .agg #[.int .i64 2, .int .i64 1]] W fun e w' => ∃ A c, e = .returned (.tuple #[.slice A 2 c, .int .i64 0]) ∧ Kd.C k32 w' A 2 [⟨1, -9⟩, ⟨2, 1⟩] ∧ Below W.heap.size W w' := by
  refine (nCells1 h).mono fun e w' ⟨v, he, hr, hb⟩ => ?_
  obtain ⟨A, c, rfl, _, hC⟩ := Kd.R_reads hr
  exact ⟨A, c, he, hC, hb⟩
def eH : HM := ⟨[], 0, 0, [], []⟩
theorem eLen {base : Nat} {W : World} {g m : Nat} {R : Nat → Prop} (h : HOwn base W g m eH R) : Calls Try.prog 12 #[.pointer (some ⟨g, 0, none⟩)] W fun e w' => e = .returned (.int .i64 0) ∧ W = w' := Len_any h
theorem eNew (w : World) : Calls Try.prog 9 #[.slice none 0 0, .int .i64 0] w fun e w' => ∃ g m R, e = .returned (.tuple #[.pointer (some ⟨g, 0, none⟩), .int .i64 0]) ∧ HOwn w.heap.size w' g m eH R ∧ (∀ i, R i → w.heap.size ≤ i) ∧ Below w.heap.size w w' := nNew0 w
theorem refA (n : Int) (w : World) : Calls Try.prog 16 #[.int .i64 n] w fun e w' => e = .returned (.agg #[.int .i64 2, .int .i64 n]) ∧ Below w.heap.size w w' := ref_any n w
end Go.Proofs.Ytnomjjhocblkkaa
