/- Opcode: Decode. -/
import Derived.Test.YtamagdnlicnefaaGreatDoorKtOf
import Derived.Test.YtamagdnlicnefaaGreatDoorKtV1
namespace Go.Proofs.YtamagdnlicnefaaGreatDoor
open Go.RowKit Go.Shelf Go.Proofs.YtamagdnlicnefaaGreatDoorW.PrintWords Go.Proofs.YtamagdnlicnefaaGreatDoorW.PrintLast Go.Proofs.YtamagdnlicnefaaGreatDoorW.PrintMore
attribute [local go_sem] Oper.semAt_some wide_fn2 wide_depth2

theorem opsL_k0 {k : Nat} (h : k ≠ 0) : opsL k 0 = [(k, 1)] := by simp [opsL, h]
theorem opsL_kk {k1 k2 : Nat} (h1 : k1 ≠ 0) (h2 : k2 ≠ 0) : opsL k1 k2 = [(k1, 1), (k2, 2)] := by simp [opsL, h1, h2]
end Go.Proofs.YtamagdnlicnefaaGreatDoor
