/- slices.Clone of a shape. -/
import Derived.Test.YtnomjjhocblkkaaJb
namespace Go.Proofs.Ytnomjjhocblkkaa
open Go.RowKit Go.Shelf Go.Proofs.YtnomjjhocblkkaaW.PrintWords Go.Proofs.YtnomjjhocblkkaaW.PrintLast Go.Proofs.YtnomjjhocblkkaaW.PrintMore
open Go.Proofs.Ytnomjjhocblkkaa.PHeapSound

theorem own_mono {w : World} {base base' : Nat} {e : TypeId} {size : Nat} {v : Value} {n : Nat} {xs : List Value} (h : w.ownsRow base e size v n xs) (hb : base' ≤ base) : w.ownsRow base' e size v n xs :=
  ⟨h.1, h.2.imp id (fun ⟨g, cap, cur, h1, h2, h3⟩ => ⟨g, cap, cur, h1, Nat.le_trans hb h2, h3⟩)⟩

theorem eqSlice39 (a : Option Addr) (l c : Nat) (w : World) : (binOp .eql 39 (.slice a l c) (.slice none 0 0)).run Try.prog w = .ok (.bool a.isNone) w := by
  simp only [binOp]
  simp [run_equal_slice_nil w 39 3 a l c Try.underlying39]
attribute [local go_sem] eqSlice39

set_option maxRecDepth 100000 in
set_option maxHeartbeats 1000000 in
theorem Clone34_any (w : World) (A : Option Addr) (c : Nat) (xs : List Int) (hC : (Kd.int .i64).C w A xs.length xs) (h1 : 1 ≤ xs.length) (h2 : xs.length ≤ 16) :
    Calls Try.prog 34 #[.slice A xs.length c] w fun e w' => ∃ A' c', e = .returned (.slice A' xs.length c') ∧ w'.ownsRow w.heap.size 3 1 (.slice A' xs.length c') xs.length (nums .i64 xs) ∧ Below w.heap.size w w' := by
  obtain ⟨i0, hi0, hz0, hz1, hz2⟩ := info_parts hinfo3
  obtain ⟨ad, rfl, hc⟩ : ∃ ad, A = some ad ∧ (∀ j u, (nums .i64 xs)[j]? = some u → w.cell? (ad.add j) = some u) := by
    obtain ⟨g1, g2⟩ := olds_at hC
    cases A with
    | none => exact absurd (g1 rfl) (by omega)
    | some ad => exact ⟨ad, rfl, g2 ad rfl⟩
  have HX := Lib.hid hc
  clear hC hc
  go_enter Try.func34, Try.ntmps34
  go_wp2_with ((with_reducible refine gate_builtin (b := .append) (xs := #[.tmp 5, .tmp 6]) rfl ?_); at_builtin; refine Wrapped.h ?_)
  refine Wrapped.mk ?_
  refine wpList_append_grows _ rfl (.tmp 5) (.tmp 6) 39 rfl 3 i0 (.int .i64 0) 1 8 Try.underlying39 hi0 hz0 hz1 hz2 rfl (by decide) (some _) 0 0 [] rfl (fun e => by cases e) rfl (fun b hb j u hj => by simp at hj) ad xs.length c (nums .i64 xs) rfl (by simp [nums]) (fun j u hj => pw_cell_below (below_alloc (Below.refl _ _) _) (HX.out j u hj)) (fun u hu => by obtain ⟨x, _, rfl⟩ := List.mem_map.1 hu; rfl) (by omega) (by unfold maxLen; omega) (by omega) ?_
  intro v' w8 hown hgrow
  rw [Nat.zero_add, List.nil_append] at hown
  obtain ⟨A8, c8, rfl⟩ := own_slice hown
  have HW8 := Lib.hid hown
  have HB8 := Lib.hid (hgrow)
  clear hown hgrow
  go_wp2
  go_ret
  refine ⟨A8, c8, rfl, own_mono HW8.out (by simp), (below_alloc (Below.refl _ _) _).trans ((Fr.grown (S := fun _ => False) HB8.out (fun _ _ h => by cases h)).below (by simp) (fun _ _ h => h))⟩
end Go.Proofs.Ytnomjjhocblkkaa
