/- The chapter's examples, call by call. -/
import Derived.Test.YtnomjjhocblkkaaJe
namespace Go.Proofs.Ytnomjjhocblkkaa
open Go.RowKit Go.Shelf Go.Proofs.YtnomjjhocblkkaaW.PrintWords Go.Proofs.YtnomjjhocblkkaaW.PrintLast Go.Proofs.YtnomjjhocblkkaaW.PrintMore
open Go.Proofs.Ytnomjjhocblkkaa.PHeapSound

def aH0 : HM := ⟨[[1, 2], [3]], 3, 0, [], []⟩
def aH1 : HM := ⟨[[1, 2], [3]], 3, 2, [0], []⟩
def aH2 : HM := ⟨[[1, 2], [3]], 3, 3, [0, 1], []⟩
def aH3 : HM := ⟨[[1, 2], [3]], 3, 3, [0, 1], [((1, 1), (2, 2))]⟩
theorem aF0 : HFit aH0 := ⟨by decide, by decide, by decide, by decide, by decide, by decide⟩
theorem aF1 : HFit aH1 := ⟨by decide, by decide, by decide, by decide, by decide, by decide⟩
theorem aF2 : HFit aH2 := ⟨by decide, by decide, by decide, by decide, by decide, by decide⟩
theorem aF3 : HFit aH3 := ⟨by decide, by decide, by decide, by decide, by decide, by decide⟩
theorem aM0 : makeH aH0 0 = aH1 ∧ makeC aH0 0 = 0 ∧ makeV aH0 0 = (2, 1) := by refine ⟨rfl, rfl, rfl⟩
theorem aM1 : makeH aH1 1 = aH2 ∧ makeC aH1 1 = 0 ∧ makeV aH1 1 = (2, 2) := by refine ⟨rfl, rfl, rfl⟩
theorem aM2 : makeH aH2 1 = aH2 ∧ makeC aH2 1 = 151 ∧ makeV aH2 1 = (0, 0) := by refine ⟨rfl, rfl, rfl⟩
theorem aG1 : getR aH2 2 1 0 1 = ((1, 0), 0, 0) := by rfl
theorem aG2 : getR aH2 2 1 2 1 = ((0, 0), 3, 0) := by rfl
theorem aG3 : getR aH2 2 1 0 2 = ((0, 0), 5, 0) := by rfl
theorem aG4 : getR aH2 2 0 0 1 = ((0, 0), 1, 0) := by rfl
theorem aS1 : setR aH2 2 1 1 2 2 = (0, 0) ∧ setH aH2 2 1 1 2 2 = aH3 := by refine ⟨rfl, rfl⟩
theorem aS2 : setR aH3 2 1 1 2 3 = (0, 150) ∧ setH aH3 2 1 1 2 3 = aH3 := by refine ⟨rfl, rfl⟩
theorem aS3 : setR aH3 2 1 0 4 5 = (0, 150) ∧ setH aH3 2 1 0 4 5 = aH3 := by refine ⟨rfl, rfl⟩

theorem aMake0 {base : Nat} {W : World} {g m : Nat} {R : Nat → Prop} (h : HOwn base W g m aH0 R) : Calls Try.prog 11 #[.pointer (some ⟨g, 0, none⟩), .int .i64 0] W fun e w' => e = .returned (.tuple #[.agg #[.int .i64 2, .int .i64 1], .int .i64 0]) ∧ (∃ R', HOwn base w' g m aH1 R' ∧ ∀ i, R' i → R i ∨ W.heap.size ≤ i) ∧ Fr (fun k => k = g) W w' := by
  have h2 := Make_any h aF0 0
  rw [aM0.1, aM0.2.1, aM0.2.2] at h2
  exact h2
theorem aMake1 {base : Nat} {W : World} {g m : Nat} {R : Nat → Prop} (h : HOwn base W g m aH1 R) : Calls Try.prog 11 #[.pointer (some ⟨g, 0, none⟩), .int .i64 1] W fun e w' => e = .returned (.tuple #[.agg #[.int .i64 2, .int .i64 2], .int .i64 0]) ∧ (∃ R', HOwn base w' g m aH2 R' ∧ ∀ i, R' i → R i ∨ W.heap.size ≤ i) ∧ Fr (fun k => k = g) W w' := by
  have h2 := Make_any h aF1 1
  rw [aM1.1, aM1.2.1, aM1.2.2] at h2
  exact h2
theorem aMake2 {base : Nat} {W : World} {g m : Nat} {R : Nat → Prop} (h : HOwn base W g m aH2 R) : Calls Try.prog 11 #[.pointer (some ⟨g, 0, none⟩), .int .i64 1] W fun e w' => e = .returned (.tuple #[.agg #[.int .i64 0, .int .i64 0], .int .i64 151]) ∧ (∃ R', HOwn base w' g m aH2 R' ∧ ∀ i, R' i → R i ∨ W.heap.size ≤ i) ∧ Fr (fun k => k = g) W w' := by
  have h2 := Make_any h aF2 1
  rw [aM2.1, aM2.2.1, aM2.2.2] at h2
  exact h2
theorem aGet1 {base : Nat} {W : World} {g m : Nat} {R : Nat → Prop} (h : HOwn base W g m aH2 R) : Calls Try.prog 15 #[.pointer (some ⟨g, 0, none⟩), .agg #[.int .i64 2, .int .i64 1], .int .i64 0, .int .i64 1] W fun e w' => e = .returned (.tuple #[.agg #[.int .i64 1, .int .i64 0], .int .i64 0, .int .i64 0]) ∧ Below W.heap.size W w' := by
  have h2 := Get_any h aF2 2 1 0 1
  rw [aG1] at h2
  exact h2
theorem aGet2 {base : Nat} {W : World} {g m : Nat} {R : Nat → Prop} (h : HOwn base W g m aH2 R) : Calls Try.prog 15 #[.pointer (some ⟨g, 0, none⟩), .agg #[.int .i64 2, .int .i64 1], .int .i64 2, .int .i64 1] W fun e w' => e = .returned (.tuple #[.agg #[.int .i64 0, .int .i64 0], .int .i64 3, .int .i64 0]) ∧ Below W.heap.size W w' := by
  have h2 := Get_any h aF2 2 1 2 1
  rw [aG2] at h2
  exact h2
theorem aGet3 {base : Nat} {W : World} {g m : Nat} {R : Nat → Prop} (h : HOwn base W g m aH2 R) : Calls Try.prog 15 #[.pointer (some ⟨g, 0, none⟩), .agg #[.int .i64 2, .int .i64 1], .int .i64 0, .int .i64 2] W fun e w' => e = .returned (.tuple #[.agg #[.int .i64 0, .int .i64 0], .int .i64 5, .int .i64 0]) ∧ Below W.heap.size W w' := by
  have h2 := Get_any h aF2 2 1 0 2
  rw [aG3] at h2
  exact h2
theorem aGet4 {base : Nat} {W : World} {g m : Nat} {R : Nat → Prop} (h : HOwn base W g m aH2 R) : Calls Try.prog 15 #[.pointer (some ⟨g, 0, none⟩), .agg #[.int .i64 2, .int .i64 0], .int .i64 0, .int .i64 1] W fun e w' => e = .returned (.tuple #[.agg #[.int .i64 0, .int .i64 0], .int .i64 1, .int .i64 0]) ∧ Below W.heap.size W w' := by
  have h2 := Get_any h aF2 2 0 0 1
  rw [aG4] at h2
  exact h2
theorem aSet1 {base : Nat} {W : World} {g m : Nat} {R : Nat → Prop} (h : HOwn base W g m aH2 R) : Calls Try.prog 13 #[.pointer (some ⟨g, 0, none⟩), .agg #[.int .i64 2, .int .i64 1], .int .i64 1, .agg #[.int .i64 2, .int .i64 2]] W fun e w' => e = .returned (.tuple #[.int .i64 0, .int .i64 0]) ∧ HOwn base w' g m aH3 R ∧ Fr (fun k => k = m) W w' := by
  have h2 := Set_any h aF2 2 1 1 2 2
  rw [aS1.1, aS1.2] at h2
  exact h2
theorem aSet2 {base : Nat} {W : World} {g m : Nat} {R : Nat → Prop} (h : HOwn base W g m aH3 R) : Calls Try.prog 13 #[.pointer (some ⟨g, 0, none⟩), .agg #[.int .i64 2, .int .i64 1], .int .i64 1, .agg #[.int .i64 2, .int .i64 3]] W fun e w' => e = .returned (.tuple #[.int .i64 0, .int .i64 150]) ∧ HOwn base w' g m aH3 R ∧ Fr (fun k => k = m) W w' := by
  have h2 := Set_any h aF3 2 1 1 2 3
  rw [aS2.1, aS2.2] at h2
  exact h2
theorem aSet3 {base : Nat} {W : World} {g m : Nat} {R : Nat → Prop} (h : HOwn base W g m aH3 R) : Calls Try.prog 13 #[.pointer (some ⟨g, 0, none⟩), .agg #[.int .i64 2, .int .i64 1], .int .i64 0, .agg #[.int .i64 4, .int .i64 5]] W fun e w' => e = .returned (.tuple #[.int .i64 0, .int .i64 150]) ∧ HOwn base w' g m aH3 R ∧ Fr (fun k => k = m) W w' := by
  have h2 := Set_any h aF3 2 1 0 4 5
  rw [aS3.1, aS3.2] at h2
  exact h2
theorem aBegun (w : World) : Calls Try.prog 27 #[] w fun e w' => ∃ g m R, e = .returned (.pointer (some ⟨g, 0, none⟩)) ∧ HOwn w.heap.size w' g m aH0 R ∧ (∀ i, R i → w.heap.size ≤ i) ∧ Below w.heap.size w w' := begun_any w
theorem ref_any (n : Int) (w : World) : Calls Try.prog 16 #[.int .i64 n] w fun e w' => e = .returned (.agg #[.int .i64 2, .int .i64 n]) ∧ Below w.heap.size w w' :=
  backstaylaw15_ref.calls n 2 n w rfl
theorem vInt_any (n : Int) (w : World) : Calls Try.prog 28 #[.int .i64 n] w fun e w' => e = .returned (.agg #[.int .i64 1, .int .i64 n]) ∧ Below w.heap.size w w' :=
  value_Int.calls n 1 n w rfl
end Go.Proofs.Ytnomjjhocblkkaa
