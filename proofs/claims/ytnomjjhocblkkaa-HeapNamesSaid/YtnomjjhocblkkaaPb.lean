/- Same of two lists that are one; the calls of HeapNames as contracts. -/
import Derived.Test.YtnomjjhocblkkaaPa
import Derived.Test.YtnomjjhocblkkaaMc
namespace Go.Proofs.Ytnomjjhocblkkaa
open Go.RowKit Go.Shelf Go.Proofs.YtnomjjhocblkkaaW.PrintWords Go.Proofs.YtnomjjhocblkkaaW.PrintLast Go.Proofs.YtnomjjhocblkkaaW.PrintMore
open Go.Proofs.Ytnomjjhocblkkaa.PHeapSound

set_option maxRecDepth 100000 in
theorem Same_true (A : Option Addr) (c : Nat) (A1 : Option Addr) (c1 : Nat) (xs : List S32) (w : World) (hC : Kd.C k32 w A xs.length xs) (hC1 : Kd.C k32 w A1 xs.length xs) (hl : xs.length ≤ 1000) :
    Calls Try.prog 29 #[.slice A xs.length c, .slice A1 xs.length c1] w fun e w' => e = .returned (.bool true) ∧ Below w.heap.size w w' := by
  have HC := Lib.hid (fun W (h : Below w.heap.size w W) => Kd.C_below hC h)
  have HC1 := Lib.hid (fun W (h : Below w.heap.size w W) => Kd.C_below hC1 h)
  clear hC hC1
  go_enter Try.func29, Try.ntmps29
  go_wp2
  go_loopw [5] (fun i W => ∃ k : Nat, i = .int .i64 k ∧ k ≤ xs.length ∧ Aside0 (Below w.heap.size w W)) (fun i _ => xs.length - (intOf i).toNat)
  case atStart => exact ⟨0, rfl, Nat.zero_le _, Aside0.mk (Below.refl _ _)⟩
  case round =>
    obtain ⟨k, rfl, hk, HB⟩ := hrel
    by_cases hkl : k < xs.length
    · have hkl' : ((k : Int) < (xs.length : Int)) := by omega
      obtain ⟨ad, rfl, x0, x1⟩ := at_T32 (HC.out _ HB.out) (k : Int) (by omega) hkl'
      obtain ⟨ae, rfl, y0, y1⟩ := at_T32 (HC1.out _ HB.out) (k : Int) (by omega) hkl'
      rw [Int.toNat_natCast] at x0 x1 y0 y1
      generalize rd_T32 xs (k : Int) = x at *
      obtain ⟨a, b⟩ := x
      simp only at x0 x1 y0 y1
      have hneq := fun W => neq32_same W a b
      go_wp2
      go_quiet (fail)
      clear x0 x1 y0 y1 hneq
      have HB2 := Lib.hid (pw_below_drewN HB.out nq)
      go_wp2
      go_roundw
      case rel => exact ⟨k + 1, by go_num, by omega, Aside0.mk HB2.out⟩
      case measure => simp [intOf]; omega
    · go_wp2
      go_ret
      exact ⟨rfl, HB.out⟩

-- the heap of the chapter, as HeapNames uses it
def nH0 : HM := ⟨[[1, 2], [3]], 3, 0, [], []⟩
def nH1 : HM := ⟨[[1, 2], [3]], 3, 2, [0], []⟩
def nH2 : HM := ⟨[[1, 2], [3]], 3, 2, [0], [((1, 0), (1, -9))]⟩
def nH3 : HM := ⟨[[1, 2], [3]], 3, 2, [0], [((1, 0), (1, -9)), ((1, 1), (2, 1))]⟩
theorem nF0 : HFit nH0 := ⟨by decide, by decide, by decide, by decide, by decide, by decide⟩
theorem nF1 : HFit nH1 := ⟨by decide, by decide, by decide, by decide, by decide, by decide⟩
theorem nF2 : HFit nH2 := ⟨by decide, by decide, by decide, by decide, by decide, by decide⟩
theorem nF3 : HFit nH3 := ⟨by decide, by decide, by decide, by decide, by decide, by decide⟩

section
variable {base : Nat} {W : World} {g m : Nat} {R : Nat → Prop}
theorem nMake0 (h : HOwn base W g m nH0 R) : Calls Try.prog 11 #[.pointer (some ⟨g, 0, none⟩), .int .i64 0] W fun e w' => e = .returned (.tuple #[.agg #[.int .i64 2, .int .i64 1], .int .i64 0]) ∧ (∃ R', HOwn base w' g m nH1 R' ∧ ∀ i, R' i → R i ∨ W.heap.size ≤ i) ∧ Fr (fun k => k = g) W w' := by
  have h2 := Make_any h nF0 0
  rw [show makeH nH0 0 = nH1 from rfl, show makeC nH0 0 = 0 from rfl, show makeV nH0 0 = (2, 1) from rfl] at h2
  exact h2
theorem nMake (n : Int) (hn : n = 2 ∨ n = -1) (h : HOwn base W g m nH3 R) : Calls Try.prog 11 #[.pointer (some ⟨g, 0, none⟩), .int .i64 n] W fun e w' => e = .returned (.tuple #[.agg #[.int .i64 0, .int .i64 0], .int .i64 150]) ∧ (∃ R', HOwn base w' g m nH3 R' ∧ ∀ i, R' i → R i ∨ W.heap.size ≤ i) ∧ Fr (fun k => k = g) W w' := by
  have h2 := Make_any h nF3 n
  have e1 : makeC nH3 n = 150 := by rcases hn with rfl | rfl <;> rfl
  have e2 : makeH nH3 n = nH3 := by rcases hn with rfl | rfl <;> rfl
  have e3 : makeV nH3 n = (0, 0) := by rcases hn with rfl | rfl <;> rfl
  rw [e1, e2, e3] at h2
  exact h2
theorem nSet1 (h : HOwn base W g m nH1 R) : Calls Try.prog 13 #[.pointer (some ⟨g, 0, none⟩), .agg #[.int .i64 2, .int .i64 1], .int .i64 0, .agg #[.int .i64 1, .int .i64 (-9)]] W fun e w' => e = .returned (.tuple #[.int .i64 0, .int .i64 0]) ∧ HOwn base w' g m nH2 R ∧ Fr (fun k => k = m) W w' := by
  have h2 := Set_any h nF1 2 1 0 1 (-9)
  rw [show setR nH1 2 1 0 1 (-9) = (0, 0) from rfl, show setH nH1 2 1 0 1 (-9) = nH2 from rfl] at h2
  exact h2
theorem nSet2 (h : HOwn base W g m nH2 R) : Calls Try.prog 13 #[.pointer (some ⟨g, 0, none⟩), .agg #[.int .i64 2, .int .i64 1], .int .i64 1, .agg #[.int .i64 2, .int .i64 1]] W fun e w' => e = .returned (.tuple #[.int .i64 0, .int .i64 0]) ∧ HOwn base w' g m nH3 R ∧ Fr (fun k => k = m) W w' := by
  have h2 := Set_any h nF2 2 1 1 2 1
  rw [show setR nH2 2 1 1 2 1 = (0, 0) from rfl, show setH nH2 2 1 1 2 1 = nH3 from rfl] at h2
  exact h2
theorem nSet3 (h : HOwn base W g m nH3 R) : Calls Try.prog 13 #[.pointer (some ⟨g, 0, none⟩), .agg #[.int .i64 2, .int .i64 1], .int .i64 1, .agg #[.int .i64 1, .int .i64 1]] W fun e w' => e = .returned (.tuple #[.int .i64 5, .int .i64 0]) ∧ HOwn base w' g m nH3 R ∧ Fr (fun k => k = m) W w' := by
  have h2 := Set_any h nF3 2 1 1 1 1
  rw [show setR nH3 2 1 1 1 1 = (5, 0) from rfl, show setH nH3 2 1 1 1 1 = nH3 from rfl] at h2
  exact h2
theorem nSet4 (h : HOwn base W g m nH3 R) : Calls Try.prog 13 #[.pointer (some ⟨g, 0, none⟩), .agg #[.int .i64 2, .int .i64 1], .int .i64 (-1), .agg #[.int .i64 1, .int .i64 1]] W fun e w' => e = .returned (.tuple #[.int .i64 3, .int .i64 0]) ∧ HOwn base w' g m nH3 R ∧ Fr (fun k => k = m) W w' := by
  have h2 := Set_any h nF3 2 1 (-1) 1 1
  rw [show setR nH3 2 1 (-1) 1 1 = (3, 0) from rfl, show setH nH3 2 1 (-1) 1 1 = nH3 from rfl] at h2
  exact h2
theorem nCells1 (h : HOwn base W g m nH3 R) : Calls Try.prog 19 #[.pointer (some ⟨g, 0, none⟩), .agg #[.int .i64 2, .int .i64 1]] W fun e w' => ∃ v, e = .returned (.tuple #[v, .int .i64 0]) ∧ Kd.R k32 32 w' W.heap.size (fun _ => True) v [⟨1, -9⟩, ⟨2, 1⟩] ∧ Below W.heap.size W w' := by
  have h2 := Cells_any h nF3 2 1
  rw [show objC nH3 2 1 = 0 from rfl, show cellsC nH3 2 1 = [⟨1, -9⟩, ⟨2, 1⟩] from rfl] at h2
  exact h2
theorem nCells0 (h : HOwn base W g m nH3 R) : Calls Try.prog 19 #[.pointer (some ⟨g, 0, none⟩), .agg #[.int .i64 2, .int .i64 0]] W fun e w' => ∃ v, e = .returned (.tuple #[v, .int .i64 150]) ∧ Kd.R k32 32 w' W.heap.size (fun _ => True) v [] ∧ Below W.heap.size W w' := by
  have h2 := Cells_any h nF3 2 0
  rw [show objC nH3 2 0 = 150 from rfl, show cellsC nH3 2 0 = [] from rfl] at h2
  exact h2
theorem nShape1 (h : HOwn base W g m nH3 R) : Calls Try.prog 18 #[.pointer (some ⟨g, 0, none⟩), .agg #[.int .i64 2, .int .i64 1]] W fun e w' => e = .returned (.tuple #[.int .i64 0, .int .i64 0]) ∧ Below W.heap.size W w' := by
  have h2 := Shape_any h nF3.few 2 1
  rw [show objC nH3 2 1 = 0 from rfl, show shapeC nH3 2 1 = 0 from rfl] at h2
  exact h2
theorem nShape2 (h : HOwn base W g m nH3 R) : Calls Try.prog 18 #[.pointer (some ⟨g, 0, none⟩), .agg #[.int .i64 2, .int .i64 2]] W fun e w' => e = .returned (.tuple #[.int .i64 0, .int .i64 150]) ∧ Below W.heap.size W w' := by
  have h2 := Shape_any h nF3.few 2 2
  rw [show objC nH3 2 2 = 150 from rfl, show shapeC nH3 2 2 = 0 from rfl] at h2
  exact h2
theorem nLen (h : HOwn base W g m nH3 R) : Calls Try.prog 12 #[.pointer (some ⟨g, 0, none⟩)] W fun e w' => e = .returned (.int .i64 1) ∧ W = w' := Len_any h
theorem nUsed (h : HOwn base W g m nH3 R) : Calls Try.prog 14 #[.pointer (some ⟨g, 0, none⟩)] W fun e w' => e = .returned (.int .i64 2) ∧ W = w' := Used_any h
theorem nLeft (h : HOwn base W g m nH3 R) : Calls Try.prog 22 #[.pointer (some ⟨g, 0, none⟩)] W fun e w' => e = .returned (.int .i64 1) ∧ ∃ n, w' = W.drewN n := Left_any h nF3.quota (by decide)
theorem nGet1 (h : HOwn base W g m nH3 R) : Calls Try.prog 15 #[.pointer (some ⟨g, 0, none⟩), .agg #[.int .i64 1, .int .i64 1], .int .i64 0, .int .i64 1] W fun e w' => e = .returned (.tuple #[.agg #[.int .i64 0, .int .i64 0], .int .i64 0, .int .i64 150]) ∧ Below W.heap.size W w' := by
  have h2 := Get_any h nF3 1 1 0 1
  rw [show getR nH3 1 1 0 1 = ((0, 0), 0, 150) from rfl] at h2
  exact h2
theorem nGet2 (h : HOwn base W g m nH3 R) (tt : Int) (ht : tt = 4 ∨ tt = 0) : Calls Try.prog 15 #[.pointer (some ⟨g, 0, none⟩), .agg #[.int .i64 2, .int .i64 1], .int .i64 0, .int .i64 tt] W fun e w' => e = .returned (.tuple #[.agg #[.int .i64 0, .int .i64 0], .int .i64 0, .int .i64 150]) ∧ Below W.heap.size W w' :=
  Get_type h nF3 1 0 tt (by rcases ht with rfl | rfl <;> rfl)
theorem nHeld (h : HOwn base W g m nH3 R) (t n : Int) (b : Bool) (hb : heldB nH3 t n = b) : Calls Try.prog 21 #[.pointer (some ⟨g, 0, none⟩), .agg #[.int .i64 t, .int .i64 n]] W fun e w' => e = .returned (.bool b) ∧ Below W.heap.size W w' := by
  have h2 := Held_any h t n
  rw [hb] at h2
  exact h2
end
theorem nBegun (w : World) : Calls Try.prog 27 #[] w fun e w' => ∃ g m R, e = .returned (.pointer (some ⟨g, 0, none⟩)) ∧ HOwn w.heap.size w' g m nH0 R ∧ (∀ i, R i → w.heap.size ≤ i) ∧ Below w.heap.size w w' := begun_any w
theorem nNew (w : World) (q : Int) (hq : newOk [] q = false) : Calls Try.prog 9 #[.slice none 0 0, .int .i64 q] w fun e w' => e = .returned (.tuple #[.pointer none, .int .i64 150]) ∧ Below w.heap.size w w' :=
  New_bad w none 0 [] q ⟨rfl, by simp, fun h => absurd h (by simp)⟩ hq
theorem nNew0 (w : World) : Calls Try.prog 9 #[.slice none 0 0, .int .i64 0] w fun e w' => ∃ g m R, e = .returned (.tuple #[.pointer (some ⟨g, 0, none⟩), .int .i64 0]) ∧ HOwn w.heap.size w' g m ⟨[], 0, 0, [], []⟩ R ∧ (∀ i, R i → w.heap.size ≤ i) ∧ Below w.heap.size w w' :=
  New_any w none 0 [] 0 ⟨rfl, by simp, fun h => absurd h (by simp)⟩ rfl
/-- One shape, of no cell, or of one. -/
theorem one_C {W : World} {A : Addr} {s : List Int} {B : Option Addr} {n c : Nat} (h : W.cell? A = some (.slice B n c)) (hn : n = s.length) (hc : n ≤ c) (hs : (Kd.int .i64).C W B s.length s) : (Kd.slice 3 (Kd.int .i64)).C W (some A) 1 [s] := by
  subst hn
  refine ⟨rfl, by simp, fun _ => ⟨_, rfl, fun j p hj => ?_⟩⟩
  match j, hj with
  | 0, hj =>
    cases hj
    refine ⟨[.slice B s.length c], rfl, ⟨_, c, rfl, hc, hs⟩, fun i u hu => ?_⟩
    match i, hu with
    | 0, hu =>
      cases hu
      exact h
theorem nBad1 (w : World) (b b' : Nat) (h : w.heap[b]? = some (.cells #[.slice (some ⟨b', 0, none⟩) 0 0] 39 (0, 0))) : Calls Try.prog 9 #[.slice (some ⟨b, 0, none⟩) 1 1, .int .i64 1] w fun e w' => e = .returned (.tuple #[.pointer none, .int .i64 150]) ∧ Below w.heap.size w w' := by
  have hc := blk_cell h 0
  simp only [List.getElem?_toArray, List.getElem?_cons_zero] at hc
  exact New_bad w (some ⟨b, 0, none⟩) 1 [[]] 1 (one_C (s := []) hc rfl (Nat.le_refl _) ⟨rfl, by simp, fun h => absurd h (by simp)⟩) rfl
theorem nBad2 (w : World) (b b' : Nat) (h : w.heap[b]? = some (.cells #[.slice (some ⟨b', 0, none⟩) 1 1] 39 (0, 0))) (h' : w.heap[b']? = some (.cells #[.int .i64 4] 3 (0, 0))) : Calls Try.prog 9 #[.slice (some ⟨b, 0, none⟩) 1 1, .int .i64 1] w fun e w' => e = .returned (.tuple #[.pointer none, .int .i64 150]) ∧ Below w.heap.size w w' := by
  have hc := blk_cell h 0
  simp only [List.getElem?_toArray, List.getElem?_cons_zero] at hc
  exact New_bad w (some ⟨b, 0, none⟩) 1 [[4]] 1 (one_C (s := [4]) hc rfl (Nat.le_refl _) (int_C [4] h' (by decide))) rfl
end Go.Proofs.Ytnomjjhocblkkaa
