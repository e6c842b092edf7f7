/- Signatures that are too great; a pair's cells. -/
import Derived.Test.YtacmajlbaenjfaaSqa
import Derived.Test.YtacmajlbaenjfaaSx
namespace Go.Proofs.Ytacmajlbaenjfaa
open Go.RowKit Go.Shelf Go.Proofs.YtacmajlbaenjfaaW.PrintWords Go.Proofs.YtacmajlbaenjfaaW.PrintLast Go.Proofs.YtacmajlbaenjfaaW.PrintMore
open Go.Proofs.Ytacmajlbaenjfaa.PRef

def grG (xs ys : List Int) : Int := if 100 < xs.length ∨ 100 < ys.length then 1 else 0
theorem great9s (W : World) (A : Option Addr) (c : Nat) (xs : List Int) (B : Option Addr) (d : Nat) (ys : List Int) (hC : (Kd.int .i64).C W A xs.length xs) (hc : xs.length ≤ c) (hD : (Kd.int .i64).C W B ys.length ys) (hd : ys.length ≤ d) :
    Calls Try.prog 9 #[.slice none 0 0, .agg #[.slice A xs.length c, .slice B ys.length d]] W fun e w' => e = .returned (.int .i64 (grG xs ys)) ∧ Below W.heap.size W w' := by
  refine backstayref06_Great.calls none 0 [] A c xs B d ys _ W (Kd.C_nil _ _) (Nat.le_refl _) hC hc hD hd ?_
  unfold backstayref06_Great.f grG
  rw [if_neg (by simp)]
  by_cases h1 : 100 < xs.length
  · rw [if_pos (by omega), if_pos (.inl h1)]
  · rw [if_neg (by omega)]
    by_cases h2 : 100 < ys.length
    · rw [if_pos (by omega), if_pos (.inr h2)]
    · rw [if_neg (by omega), if_neg (fun h => h.elim h1 h2)]
theorem grG_one {xs ys : List Int} (h : ¬ grG xs ys = 0) : grG xs ys = 1 := by
  unfold grG at h ⊢
  split at h
  · rw [if_pos ‹_›]
  · exact absurd rfl h
theorem grG_zero {xs ys : List Int} (h : grG xs ys = 0) : xs.length ≤ 100 ∧ ys.length ≤ 100 := by
  unfold grG at h
  split at h
  · cases h
  · rename_i h1
    exact ⟨Nat.le_of_not_lt (fun h2 => h1 (.inl h2)), Nat.le_of_not_lt (fun h2 => h1 (.inr h2))⟩
theorem pair_cells {W : World} {n : Nat} {u v : Value} {t : Nat} (h : W.heap[n]? = some (.cells #[u, v] t (0, 0))) : W.cell? ⟨n, 0, none⟩ = some u ∧ W.cell? ⟨n, 1, none⟩ = some v := ⟨blk_cell h 0, blk_cell h 1⟩
end Go.Proofs.Ytacmajlbaenjfaa
