/- The error variables of a row's list hold errors. -/
import Derived.Test.YtamagdnlicnefaaGreatDoorKnQt
import Derived.Test.YtamagdnlicnefaaGreatDoorKnShelf
namespace Go.Proofs.YtamagdnlicnefaaGreatDoor
open Go.RowKit
theorem iface_cell {H : Type} {enc : TypeId × Value → H} {P : Program} {w : World} {base : Nat} {sp : Nat → Bool} {held : Bool} {fuel : Nat} {t : TypeId} {ms : Array (String × TypeId)} {cs : List Value} {y : DataW H × List MemPlace}
    (ht : P.underlying t = some (.interface ms)) (h : DataW.trod enc P w base sp held fuel t cs = some y) : ∃ c, cs = [c] ∧ (c = .nilIface ∨ ∃ u v, c = .iface u v) := by
  cases fuel with
  | zero => simp [DataW.trod] at h
  | succ fuel =>
    simp only [DataW.trod, ht] at h
    split at h
    all_goals first
      | exact ⟨_, rfl, .inl rfl⟩
      | exact ⟨_, rfl, .inr ⟨_, _, rfl⟩⟩
      | (exfalso; simp_all; done)
end Go.Proofs.YtamagdnlicnefaaGreatDoor
