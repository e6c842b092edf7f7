/- Opcode: rows, known, Kinds, number, named, of, in. -/
import Derived.Test.YtamagdnlicnefaaDoorProg
import Derived.Test.YtamagdnlicnefaaDoorWWords
import Derived.Test.YtamagdnlicnefaaDoorWLast
import Derived.Test.YtamagdnlicnefaaDoorWMore
import Derived.WalkKit
import Derived.Lib.Hide
import Derived.LoopTactic
import Derived.Deep.RegionHeld3
import Derived.Deep.QuietTactic
import Derived.BigQuiet
import Derived.RangeFuncRecord
import Derived.Outline
import Derived.WalkLawsBesides
import Derived.WalkSpells
import Derived.Deep.WholeRow
namespace Go.Proofs.YtamagdnlicnefaaDoor
open Go.RowKit Go.Proofs.YtamagdnlicnefaaDoorW.PrintWords Go.Proofs.YtamagdnlicnefaaDoorW.PrintLast Go.Proofs.YtamagdnlicnefaaDoorW.PrintMore

/-- What an instruction is: its name, its operands' kinds, what it takes, leaves, and whether that is not fixed. -/
def rowsL : List (List UInt8 × Nat × Nat × List UInt8 × List UInt8 × Bool) :=
  [([110, 111, 112], 0, 0, [], [], false), ([105, 110, 116], 1, 0, [], [73], false), ([122, 101, 114, 111], 2, 0, [], [84], false), ([108, 111, 97, 100], 4, 0, [], [], true), ([115, 116, 111, 114, 101], 4, 0, [], [], true), ([97, 100, 100, 114], 4, 0, [], [80], false),
   ([108, 100, 112], 0, 0, [80], [73], false), ([115, 116, 112], 0, 0, [80, 73], [], false), ([110, 101, 119], 5, 0, [], [82], false), ([103, 101, 116], 6, 3, [82], [84], false), ([115, 101, 116], 6, 3, [82, 84], [], false), ([102, 117, 110, 99], 7, 0, [], [70], false),
   ([100, 117, 112], 0, 0, [], [], true), ([100, 114, 111, 112], 0, 0, [], [], true), ([115, 119, 97, 112], 0, 0, [], [], true), ([98, 105, 110], 8, 0, [73, 73], [73], false), ([117, 110], 9, 0, [73], [73], false), ([101, 113], 2, 0, [84, 84], [73], false),
   ([106, 109, 112], 10, 0, [], [], false), ([106, 122], 10, 0, [73], [], false), ([99, 97, 108, 108], 7, 0, [], [], true), ([99, 97, 108, 108, 105], 7, 0, [], [], true), ([100, 101, 102, 101, 114], 7, 0, [], [], true), ([100, 101, 102, 101, 114, 105], 7, 0, [], [], true),
   ([114, 101, 116], 0, 0, [], [], false), ([112, 97, 110, 105, 99], 0, 0, [73], [], false), ([114, 101, 99, 111, 118, 101, 114], 0, 0, [], [73, 73], false), ([103, 111, 101, 120, 105, 116], 0, 0, [], [], false), ([112, 114, 105, 110, 116], 0, 0, [73], [], false), ([105, 110], 0, 0, [], [73, 73], false)]
def rowCells (r : List UInt8 × Nat × Nat × List UInt8 × List UInt8 × Bool) : List Value := [.string ⟨r.1.toArray⟩, .int .i64 r.2.1, .int .i64 r.2.2.1, .string ⟨r.2.2.2.1.toArray⟩, .string ⟨r.2.2.2.2.1.toArray⟩, .bool r.2.2.2.2.2]
def rowsC : Array Value := (rowsL.map rowCells).flatten.toArray
def rowOf (k : Nat) : List UInt8 × Nat × Nat × List UInt8 × List UInt8 × Bool := rowsL.getD k ([], 0, 0, [], [], false)
def rowV (k : Nat) : Value := .agg (rowCells (rowOf k)).toArray

/-- A whole value into the block that was made last. -/
theorem store_new {P : Program} {ops : Array Oper} {rest : List Oper} {o : Oper} {a : Act} {w : World} {Q : Exit → Act → World → Prop} (t : TypeId) (p x : Operand) (c c' : Array Value) (u : Value) (hN : o.dst = none) (hgd : o.guard = none) (ho : o.op = .store t p x)
    (haddr : a.eval p = .pointer (some ⟨w.heap.size, 0, none⟩)) (hx : a.eval x = u) (hu : u.cells = c') (hi : (P.info? t).map (·.size) = some c'.size) (hc : c.size = c'.size) (h1 : c'.all (·.oneCell') = true)
    (h : wpList P ops Q rest a (w.alloc (.cells c' t))) : wpList P ops Q (o :: rest) a (w.alloc (.cells c t)) := by
  refine wpList_plain hgd fun K hK => ?_
  have hrun : (Instr.storeAt t (.pointer (some ⟨w.heap.size, 0, none⟩)) u).run P (w.alloc (.cells c t)) = .ok () (w.alloc (.cells c' t)) := by
    obtain ⟨i, hi', hsz⟩ := Option.map_eq_some_iff.1 hi
    have := run_storeCells_new (P := P) w t c c' hi hc h1
    simp [Instr.storeAt, Instr.sureAddr, storeVar, sizeOf, typeInfo, hi', hsz, hu, this]
  unfold Oper.wp execOp
  simp only [ho, haddr, hx, Sem.run_bind, Sem.run_pure, Result.andThen_ok, hrun]
  show K (a.put o.dst undef) _
  rw [hN]
  exact hK _ _ h

theorem rowsC_size : rowsC.size = 180 := by decide +kernel
theorem size93 : (Tryd.prog.info? 93).map (·.size) = some rowsC.size := by rw [rowsC_size]; kernel_rfl
set_option maxRecDepth 100000 in
theorem zero93_size : Tryd.zeroCells93.size = rowsC.size := by rw [rowsC_size]; kernel_rfl
theorem rowsC_one : rowsC.all (·.oneCell') = true := by decide +kernel

set_option maxRecDepth 100000 in
set_option maxHeartbeats 4000000 in
theorem rows41_any (w : World) : Calls Tryd.prog 41 #[] w fun e w' => e = .returned (.agg rowsC) ∧ Below w.heap.size w w' := by
  go_enter Tryd.func41, Tryd.ntmps41
  go_wp2_with ((with_reducible refine gate_ (.store 93 (.tmp 0) (.tmp 31)) rfl ?_); refine store_new 93 (.tmp 0) (.tmp 31) _ rowsC _ rfl rfl rfl rfl rfl (by kernel_rfl) size93 zero93_size rowsC_one ?_)
  refine bodyPost_ret (results_cell_row rfl _ _ w.heap.size 93 rowsC (0, 0) _ rfl (World.alloc_heap_new w _) Tryd.underlying93 rfl size93) rfl ⟨rfl, (Below.refl _ _).alloc (Nat.le_refl _) _⟩
end Go.Proofs.YtamagdnlicnefaaDoor
