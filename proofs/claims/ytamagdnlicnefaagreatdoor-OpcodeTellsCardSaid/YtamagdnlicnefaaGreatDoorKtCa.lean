/- What comes in: bytes, an instruction. -/
import Derived.Lib.SmallJoins
import Derived.OpenShut
import Derived.Test.YtamagdnlicnefaaGreatDoorKtV1
namespace Go.Proofs.YtamagdnlicnefaaGreatDoor
open Go.RowKit Go.Shelf Go.Proofs.YtamagdnlicnefaaGreatDoorW.PrintWords Go.Proofs.YtamagdnlicnefaaGreatDoorW.PrintLast Go.Proofs.YtamagdnlicnefaaGreatDoorW.PrintMore
open Go.ChangeShapes Go.WideShapes Go.ChangeAt
section
variable {H : Type} {enc : TypeId × Value → H} {W : World} {base : Nat}
set_option maxRecDepth 100000 in
theorem came_instr {v : Value} {d : DataW H} {p : List MemPlace} (hv : Value.okWide Tryz.prog W .any base 23 v) (h : DataW.Trod enc Tryz.prog W 0 (fun _ => true) true 23 v d p) :
    ∃ op a b : Int, v = .agg #[.int .i64 op, .int .i64 a, .int .i64 b] ∧ (-9223372036854775808 ≤ op ∧ op ≤ 9223372036854775807) ∧ (-9223372036854775808 ≤ a ∧ a ≤ 9223372036854775807) ∧ (-9223372036854775808 ≤ b ∧ b ≤ 9223372036854775807) := by
  obtain ⟨v0, v1, v2, y0, y1, y2, n, rfl, rfl, rfl, h0, h1, h2⟩ := Joins.open_agg3 Tryz.underlying23 (by kernel_rfl) (by kernel_rfl) hv h
  obtain ⟨k0, e0, _, w0⟩ := DataW.trod_int Tryz.underlying3 h0
  obtain ⟨k1, e1, _, w1⟩ := DataW.trod_int Tryz.underlying2 h1
  obtain ⟨k2, e2, _, w2⟩ := DataW.trod_int Tryz.underlying2 h2
  cases e0; cases e1; cases e2
  exact ⟨k0, k1, k2, rfl, Go.bounds_i64 w0, Go.bounds_i64 w1, Go.bounds_i64 w2⟩
end
end Go.Proofs.YtamagdnlicnefaaGreatDoor
