/- Contracts of Width, ones, spelt · Contracts of the Tape: Number · Contracts: Tape.All, number, alive · Contracts: Zig, Zag, and the Tape's Signed and Bytes · Contracts of the Reel: find · Contracts of the Reel: move, Number, Signed, At, End · What the laws want of the Reel and of the document's Width: rows that came in, ref Width, what is read of bytes. -/
import Derived.BigQuiet
import Derived.Deep.AppendLies
import Derived.Deep.QuietTactic
import Derived.Laws.EntriesVeiled
import Derived.Lib.Hide
import Derived.Lib.ItoaNum
import Derived.Lib.Zigzag
import Derived.LoopIn
import Derived.LoopNIn
import Derived.LoopTactic
import Derived.Maps.AppendAt
import Derived.OpenShut
import Derived.Outline
import Derived.OwnWalkIn
import Derived.RangeFuncBound
import Derived.RangeFuncBox
import Derived.RangeFuncCalls
import Derived.RangeFuncLeaves
import Derived.RangeFuncNested
import Derived.Shelf.Abstract
import Derived.Shelf.RegionOpen
import Derived.StillTailTactics
import Derived.TacticsInMore
import Derived.WalkKit
import Derived.WalkLawsBesides
import Derived.WalkSpells
import Derived.Test.YtamagdnlicnefaaGreatDoorKtRb
import Derived.Test.YtamagdnlicnefaaGreatDoorKtRd
import Derived.Test.YtamagdnlicnefaaGreatDoorKtShelf
import Derived.Test.YtamagdnlicnefaaGreatDoorKtW
namespace Go.Proofs.YtamagdnlicnefaaGreatDoor
open Go.RowKit Go.Shelf Go.Proofs.YtamagdnlicnefaaGreatDoorW.PrintWords Go.Proofs.YtamagdnlicnefaaGreatDoorW.PrintLast Go.Proofs.YtamagdnlicnefaaGreatDoorW.PrintMore
attribute [local go_sem] Oper.semAt_some
attribute [local go_sem] max2_int min2_int max_two min_two max_three min_three max_four min_four

end Go.Proofs.YtamagdnlicnefaaGreatDoor
namespace Go.Proofs.YtamagdnlicnefaaGreatDoor
open Go.RowKit Go.Shelf Go.Proofs.YtamagdnlicnefaaGreatDoorW.PrintWords Go.Proofs.YtamagdnlicnefaaGreatDoorW.PrintLast Go.Proofs.YtamagdnlicnefaaGreatDoorW.PrintMore
attribute [local go_sem] Oper.semAt_some

structure TapeIs (W : World) (g base : Nat) (v : Value) (xs : List Int) : Prop where
  blk : W.heap[g]? = some (.cells #[v] 119 (0, 0))
  own : W.ownsRow base 5 1 v xs.length (nums .u8 xs)
end Go.Proofs.YtamagdnlicnefaaGreatDoor
namespace Go.Proofs.YtamagdnlicnefaaGreatDoor
end Go.Proofs.YtamagdnlicnefaaGreatDoor
namespace Go.Proofs.YtamagdnlicnefaaGreatDoor
end Go.Proofs.YtamagdnlicnefaaGreatDoor
namespace Go.Proofs.YtamagdnlicnefaaGreatDoor
open Go.RowKit Go.Shelf Go.Proofs.YtamagdnlicnefaaGreatDoorW.PrintWords Go.Proofs.YtamagdnlicnefaaGreatDoorW.PrintLast Go.Proofs.YtamagdnlicnefaaGreatDoorW.PrintMore

structure ReelIs (W : World) (g base : Nat) (v : Value) (bs : List Int) (at_ : Nat) : Prop where
  blk : W.heap[g]? = some (.cells #[v, .int .i64 at_] 103 (0, 0))
  own : W.ownsRow base 5 1 v bs.length (nums .u8 bs)
  le : at_ ≤ bs.length
  small : bs.length ≤ 140737488355328
  bytes : ∀ b ∈ bs, 0 ≤ b ∧ b ≤ 255
def rest (bs : List Int) (at_ : Nat) : List Nat := (bs.drop at_).map Int.toNat
structure FAt (w W : World) (g b cap n p : Nat) (x : Int) : Prop where
  below : Below w.heap.size w W
  c0 : W.cell? ⟨g, 0, none⟩ = some (.slice (some ⟨b, 0, none⟩) n cap)
  c1 : W.cell? ⟨g, 1, none⟩ = some (.int .i64 p)
  c2 : W.cell? ⟨b, p, none⟩ = some (.int .u8 x)
  box : W.heap[w.heap.size]? = some (.cells #[.int .u64 0, .int .i64 0, .nilFunc] 125 (0, 0))
theorem FAt.drewN {w W : World} {g b cap n p : Nat} {x : Int} (h : FAt w W g b cap n p x) (m : Nat) : FAt w (W.drewN m) g b cap n p x := ⟨pw_below_drewN h.below m, h.c0, h.c1, h.c2, h.box⟩
theorem FAt.drew {w W : World} {g b cap n p : Nat} {x : Int} (h : FAt w W g b cap n p x) : FAt w W.drew g b cap n p x := ⟨below_drew h.below, h.c0, h.c1, h.c2, h.box⟩
theorem FAt.later {w W W' : World} {g b cap n p : Nat} {x : Int} (h : FAt w W g b cap n p x) (hb : Below W.heap.size W W') : FAt w W' g b cap n p x :=
  ⟨below_then h.below h.below.size hb, pw_cell_below hb h.c0, pw_cell_below hb h.c1, pw_cell_below hb h.c2, (hb.block _ (blk_lt h.box)).trans h.box⟩
theorem FAt.cells {w W : World} {g b cap n p : Nat} {x : Int} (h : FAt w W g b cap n p x) :
    (W.cell? ⟨w.heap.size, 0, none⟩ = some (.int .u64 0) ∧ W.cell? ⟨w.heap.size, 1, none⟩ = some (.int .i64 0) ∧ W.cell? ⟨w.heap.size, 2, none⟩ = some .nilFunc) ∧
    (W.frozen? ⟨w.heap.size, 0, none⟩ = false ∧ W.frozen? ⟨w.heap.size, 1, none⟩ = false ∧ W.frozen? ⟨w.heap.size, 2, none⟩ = false) :=
  ⟨⟨blk_cell h.box 0, blk_cell h.box 1, blk_cell h.box 2⟩, blk_frozen h.box 0, blk_frozen h.box 1, blk_frozen h.box 2⟩
end Go.Proofs.YtamagdnlicnefaaGreatDoor
namespace Go.Proofs.YtamagdnlicnefaaGreatDoor
open Go.RowKit Go.Shelf Go.Proofs.YtamagdnlicnefaaGreatDoorW.PrintWords Go.Proofs.YtamagdnlicnefaaGreatDoorW.PrintLast Go.Proofs.YtamagdnlicnefaaGreatDoorW.PrintMore

theorem ReelIs.below {w w' : World} {g base p : Nat} {v : Value} {bs : List Int} (h : ReelIs w g base v bs p) (hb : Below w.heap.size w w') : ReelIs w' g base v bs p :=
  ⟨(hb.block g (blk_lt h.blk)).trans h.blk, pw_own_below h.own hb, h.le, h.small, h.bytes⟩
end Go.Proofs.YtamagdnlicnefaaGreatDoor
namespace Go.Proofs.YtamagdnlicnefaaGreatDoor
end Go.Proofs.YtamagdnlicnefaaGreatDoor
