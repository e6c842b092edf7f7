/- Opcode: the laws' of, bytes, alive. -/
import Derived.Test.YtamagdnlicnefaaGreatDoorKtQb
import Derived.Test.YtamagdnlicnefaaGreatDoorKtV1
namespace Go.Proofs.YtamagdnlicnefaaGreatDoor
open Go.RowKit Go.Shelf Go.Proofs.YtamagdnlicnefaaGreatDoorW.PrintWords Go.Proofs.YtamagdnlicnefaaGreatDoorW.PrintLast Go.Proofs.YtamagdnlicnefaaGreatDoorW.PrintMore

def showW (op a b : Int) : List UInt8 := if okB op a b = true then showX op a b else []
theorem Show9_any (op a b : Int) (w : World) (hT : Tabs w) : Calls Tryz.prog 24 #[.agg #[.int .i64 op, .int .i64 a, .int .i64 b]] w fun e w' => e = .returned (.string ⟨(showW op a b).toArray⟩) ∧ Below w.heap.size w w' := by
  unfold showW
  by_cases h : okB op a b = true
  · rw [if_pos h]; exact Show9_ok op a b w h hT
  · rw [if_neg h]; exact Show9_bad op a b w (by simpa using h)
end Go.Proofs.YtamagdnlicnefaaGreatDoor
