/- OpcodeEffects' walk. -/
import Derived.Test.YtamagdnlicnefaaGreatDoorKnSd
import Derived.Test.YtamagdnlicnefaaGreatDoorKnT1
namespace Go.Proofs.YtamagdnlicnefaaGreatDoor.PRef
end Go.Proofs.YtamagdnlicnefaaGreatDoor.PRef
namespace Go.Proofs.YtamagdnlicnefaaGreatDoor
open Go.RowKit Go.Shelf Go.Proofs.YtamagdnlicnefaaGreatDoorW.PrintWords Go.Proofs.YtamagdnlicnefaaGreatDoorW.PrintLast Go.Proofs.YtamagdnlicnefaaGreatDoorW.PrintMore
open Go.Proofs.YtamagdnlicnefaaGreatDoor.PRef

def IRow (W : World) (A : Option Addr) (c : Nat) (xs : List Int) : Prop := xs.length ≤ c ∧ (Kd.int .i64).C W A xs.length xs
theorem IRow.of {W : World} {base : Nat} {A : Option Addr} {n c : Nat} {xs : List Int} (h : W.ownsRow base 3 1 (.slice A n c) xs.length (nums .i64 xs)) : n = xs.length ∧ IRow W A c xs := by
  have : n = xs.length ∧ n ≤ c ∧ (Kd.int .i64).C W A xs.length xs := Kd.R_reads' (Kd.R_of_own (ok := fun _ => True) h (fun _ _ => trivial))
  exact ⟨this.1, by have h1 := this.1; have h2 := this.2.1; omega, this.2.2⟩
theorem IRow.below {W W' : World} {A : Option Addr} {c : Nat} {xs : List Int} (h : IRow W A c xs) (hb : Below W.heap.size W W') : IRow W' A c xs := ⟨h.1, Kd.C_below h.2 hb⟩
theorem eff_rows (op a b : Int) (f : Bool) (tl ll : List Int) (hf : fixB op a b = f) (ht : effT true op a b = tl) (hl : effT false op a b = ll) (w : World) (hm : ∃ m, w.cell? ⟨0, 0, none⟩ = some (.int .i64 m)) : Calls Tryz.prog 7 #[.agg #[.int .i64 op, .int .i64 a, .int .i64 b]] w fun e w' => ∃ Au cu Av cv, e = .returned (.tuple #[.slice Au tl.length cu, .slice Av ll.length cv, .bool f]) ∧ IRow w' Au cu tl ∧ IRow w' Av cv ll ∧ Below w.heap.size w w' := by
  refine (Effect_any op a b w hm).mono ?_
  rintro e w' ⟨u, v, rfl, hu, hv, hb⟩
  rw [ht] at hu
  rw [hl] at hv
  obtain ⟨Au, cu, rfl⟩ := own_slice hu
  obtain ⟨Av, cv, rfl⟩ := own_slice hv
  exact ⟨Au, cu, Av, cv, by rw [hf], (IRow.of hu).2, (IRow.of hv).2, hb⟩
end Go.Proofs.YtamagdnlicnefaaGreatDoor
