/- OpcodeEffects' walk. -/
import Derived.Test.YtamagdnlicnefaaGreatDoorKtSd
import Derived.Test.YtamagdnlicnefaaGreatDoorKtT1
namespace Go.Proofs.YtamagdnlicnefaaGreatDoor
open Go.RowKit Go.Shelf Go.Proofs.YtamagdnlicnefaaGreatDoorW.PrintWords Go.Proofs.YtamagdnlicnefaaGreatDoorW.PrintLast Go.Proofs.YtamagdnlicnefaaGreatDoorW.PrintMore
open Go.Proofs.YtamagdnlicnefaaGreatDoor.PRef

def IRow (W : World) (A : Option Addr) (c : Nat) (xs : List Int) : Prop := xs.length ≤ c ∧ (Kd.int .i64).C W A xs.length xs
theorem IRow.of {W : World} {base : Nat} {A : Option Addr} {n c : Nat} {xs : List Int} (h : W.ownsRow base 3 1 (.slice A n c) xs.length (nums .i64 xs)) : n = xs.length ∧ IRow W A c xs := by
  have : n = xs.length ∧ n ≤ c ∧ (Kd.int .i64).C W A xs.length xs := Kd.R_reads' (Kd.R_of_own (ok := fun _ => True) h (fun _ _ => trivial))
  exact ⟨this.1, by have h1 := this.1; have h2 := this.2.1; omega, this.2.2⟩
theorem IRow.below {W W' : World} {A : Option Addr} {c : Nat} {xs : List Int} (h : IRow W A c xs) (hb : Below W.heap.size W W') : IRow W' A c xs := ⟨h.1, Kd.C_below h.2 hb⟩
theorem own_IRow {W : World} {base n c : Nat} {A : Option Addr} {xs : List Int} (h : W.ownsRow base 3 1 (.slice A n c) xs.length (nums .i64 xs)) : IRow W A c xs := (IRow.of h).2
theorem R_own64 {w : World} {base : Nat} {v : Value} {xs : List Int} {ok : Nat → Prop} (h : Kd.R (Kd.int .i64) 3 w base ok v xs) : w.ownsRow base 3 1 v xs.length (nums .i64 xs) := Kd.own_of_R h
theorem ints_same (w : World) (A : Option Addr) (c : Nat) (A' : Option Addr) (c' : Nat) (xs : List Int) (h : xs.length ≤ 2) (h1 : IRow w A c xs) (h2 : IRow w A' c' xs) : Calls Tryz.prog 13 #[.slice A xs.length c, .slice A' xs.length c'] w fun e w' => e = .returned (.bool true) ∧ Below w.heap.size w w' :=
  (backstayref02_Ints.calls 5 A c xs A' c' xs true w h1.2 h1.1 h2.2 h2.1 (ints_refl xs h)).mono fun _ _ ⟨h1, h2⟩ => ⟨h1, h2.below⟩
end Go.Proofs.YtamagdnlicnefaaGreatDoor
