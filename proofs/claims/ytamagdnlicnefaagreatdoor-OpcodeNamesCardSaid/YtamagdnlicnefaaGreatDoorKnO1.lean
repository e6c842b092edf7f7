/- Opcode: rows, known, Kinds, number, named, of, in · Opcode: Kinds, number, named, of, in · Opcode: of · Opcode: Check. -/
import Derived.BigQuiet
import Derived.Deep.QuietTactic
import Derived.Deep.RegionHeld3
import Derived.Deep.WholeRow
import Derived.Laws.EntriesVeiled
import Derived.Laws.Tables
import Derived.Lib.Hide
import Derived.LoopTactic
import Derived.Outline
import Derived.RangeFuncRecord
import Derived.Test.YtamagdnlicnefaaGreatDoorProg
import Derived.WalkKit
import Derived.WalkLawsBesides
import Derived.WalkSpells
import Derived.Test.YtamagdnlicnefaaGreatDoorKnRb
import Derived.Test.YtamagdnlicnefaaGreatDoorKnW
namespace Go.Proofs.YtamagdnlicnefaaGreatDoor
open Go.RowKit Go.Proofs.YtamagdnlicnefaaGreatDoorW.PrintWords Go.Proofs.YtamagdnlicnefaaGreatDoorW.PrintLast Go.Proofs.YtamagdnlicnefaaGreatDoorW.PrintMore

def rowsL : List (List UInt8 × Nat × Nat × List UInt8 × List UInt8 × Bool) :=
  [([110, 111, 112], 0, 0, [], [], false), ([105, 110, 116], 1, 0, [], [73], false), ([122, 101, 114, 111], 2, 0, [], [84], false), ([108, 111, 97, 100], 4, 0, [], [], true), ([115, 116, 111, 114, 101], 4, 0, [], [], true), ([97, 100, 100, 114], 4, 0, [], [80], false),
   ([108, 100, 112], 0, 0, [80], [73], false), ([115, 116, 112], 0, 0, [80, 73], [], false), ([110, 101, 119], 5, 0, [], [82], false), ([103, 101, 116], 6, 3, [82], [84], false), ([115, 101, 116], 6, 3, [82, 84], [], false), ([102, 117, 110, 99], 7, 0, [], [70], false),
   ([100, 117, 112], 0, 0, [], [], true), ([100, 114, 111, 112], 0, 0, [], [], true), ([115, 119, 97, 112], 0, 0, [], [], true), ([98, 105, 110], 8, 0, [73, 73], [73], false), ([117, 110], 9, 0, [73], [73], false), ([101, 113], 2, 0, [84, 84], [73], false),
   ([106, 109, 112], 10, 0, [], [], false), ([106, 122], 10, 0, [73], [], false), ([99, 97, 108, 108], 7, 0, [], [], true), ([99, 97, 108, 108, 105], 7, 0, [], [], true), ([100, 101, 102, 101, 114], 7, 0, [], [], true), ([100, 101, 102, 101, 114, 105], 7, 0, [], [], true),
   ([114, 101, 116], 0, 0, [], [], false), ([112, 97, 110, 105, 99], 0, 0, [73], [], false), ([114, 101, 99, 111, 118, 101, 114], 0, 0, [], [73, 73], false), ([103, 111, 101, 120, 105, 116], 0, 0, [], [], false), ([112, 114, 105, 110, 116], 0, 0, [73], [], false), ([105, 110], 0, 0, [], [73, 73], false)]
def rowCells (r : List UInt8 × Nat × Nat × List UInt8 × List UInt8 × Bool) : List Value := [.string ⟨r.1.toArray⟩, .int .i64 r.2.1, .int .i64 r.2.2.1, .string ⟨r.2.2.2.1.toArray⟩, .string ⟨r.2.2.2.2.1.toArray⟩, .bool r.2.2.2.2.2]
def rowsC : Array Value := (rowsL.map rowCells).flatten.toArray
def rowOf (k : Nat) : List UInt8 × Nat × Nat × List UInt8 × List UInt8 × Bool := rowsL.getD k ([], 0, 0, [], [], false)
def rowV (k : Nat) : Value := .agg (rowCells (rowOf k)).toArray
theorem store_new {P : Program} {ops : Array Oper} {rest : List Oper} {o : Oper} {a : Act} {w : World} {Q : Exit → Act → World → Prop} (t : TypeId) (p x : Operand) (c c' : Array Value) (u : Value) (hN : o.dst = none) (hgd : o.guard = none) (ho : o.op = .store t p x)
    (haddr : a.eval p = .pointer (some ⟨w.heap.size, 0, none⟩)) (hx : a.eval x = u) (hu : u.cells = c') (hi : (P.info? t).map (·.size) = some c'.size) (hc : c.size = c'.size) (h1 : c'.all (·.oneCell') = true)
    (h : wpList P ops Q rest a (w.alloc (.cells c' t))) : wpList P ops Q (o :: rest) a (w.alloc (.cells c t)) := by
  refine wpList_plain hgd fun K hK => ?_
  have hrun : (Instr.storeAt t (.pointer (some ⟨w.heap.size, 0, none⟩)) u).run P (w.alloc (.cells c t)) = .ok () (w.alloc (.cells c' t)) := by
    obtain ⟨i, hi', hsz⟩ := Option.map_eq_some_iff.1 hi
    have := run_storeCells_new (P := P) w t c c' hi hc h1
    simp [Instr.storeAt, Instr.sureAddr, storeVar, sizeOf, typeInfo, hi', hsz, hu, this]
  unfold Oper.wp execOp
  simp only [ho, haddr, hx, Sem.run_bind, Sem.run_pure, Result.andThen_ok, hrun]
  show K (a.put o.dst undef) _
  rw [hN]
  exact hK _ _ h
theorem rowsC_size : rowsC.size = 180 := by decide +kernel
theorem size93 : (Tryz.prog.info? 59).map (·.size) = some rowsC.size := by rw [rowsC_size]; kernel_rfl
set_option maxRecDepth 100000 in
theorem zero93_size : Tryz.zeroCells59.size = rowsC.size := by rw [rowsC_size]; kernel_rfl
theorem rowsC_one : rowsC.all (·.oneCell') = true := by decide +kernel
set_option maxRecDepth 100000 in
set_option maxHeartbeats 4000000 in
theorem rows41_any (w : World) : Calls Tryz.prog 32 #[] w fun e w' => e = .returned (.agg rowsC) ∧ Below w.heap.size w w' := by
  go_enter Tryz.func32, Tryz.ntmps32
  go_wp2_with ((with_reducible refine gate_ (.store 59 (.tmp 0) (.tmp 31)) rfl ?_); refine store_new 59 (.tmp 0) (.tmp 31) _ rowsC _ rfl rfl rfl rfl rfl (by kernel_rfl) size93 zero93_size rowsC_one ?_)
  refine bodyPost_ret (results_cell_row rfl _ _ w.heap.size 59 rowsC (0, 0) _ rfl (World.alloc_heap_new w _) Tryz.underlying59 rfl size93) rfl ⟨rfl, (Below.refl _ _).alloc (Nat.le_refl _) _⟩
end Go.Proofs.YtamagdnlicnefaaGreatDoor
namespace Go.Proofs.YtamagdnlicnefaaGreatDoor
open Go.RowKit Go.Proofs.YtamagdnlicnefaaGreatDoorW.PrintWords Go.Proofs.YtamagdnlicnefaaGreatDoorW.PrintLast Go.Proofs.YtamagdnlicnefaaGreatDoorW.PrintMore

set_option maxRecDepth 100000 in
theorem rows_part (k : Nat) (hk : k < 30) : Value.agg (rowsC.extract (k * 6) (k * 6 + 6)) = rowV k := by
  have h : k = 0 ∨ k = 1 ∨ k = 2 ∨ k = 3 ∨ k = 4 ∨ k = 5 ∨ k = 6 ∨ k = 7 ∨ k = 8 ∨ k = 9 ∨ k = 10 ∨ k = 11 ∨ k = 12 ∨ k = 13 ∨ k = 14 ∨ k = 15 ∨ k = 16 ∨ k = 17 ∨ k = 18 ∨ k = 19 ∨ k = 20 ∨ k = 21 ∨ k = 22 ∨ k = 23 ∨ k = 24 ∨ k = 25 ∨ k = 26 ∨ k = 27 ∨ k = 28 ∨ k = 29 := by omega
  rcases h with rfl | rfl | rfl | rfl | rfl | rfl | rfl | rfl | rfl | rfl | rfl | rfl | rfl | rfl | rfl | rfl | rfl | rfl | rfl | rfl | rfl | rfl | rfl | rfl | rfl | rfl | rfl | rfl | rfl | rfl <;> rfl
theorem size92 : ∃ i, Tryz.prog.info? 58 = some i ∧ i.size = 6 := by
  obtain ⟨i, hi, hs⟩ := Option.map_eq_some_iff.1 (show (Tryz.prog.info? 58).map (·.size) = some 6 by kernel_rfl)
  exact ⟨i, hi, hs⟩
theorem index93 (k : Nat) (hk : k < 30) (w : World) : (Instr.index 59 (.agg rowsC) (.int .i64 k)).run Tryz.prog w = .ok (rowV k) w := by
  obtain ⟨i, hi, hs⟩ := size92
  have h1 : (0 : Int) ≤ k ∧ (k : Int) < 30 := ⟨by omega, by omega⟩
  have h2 := rows_part k hk
  have h3 : ¬ 30 ≤ k := by omega
  simp [Instr.index, asIntOf, run_underlying Tryz.underlying59, h1, part, isAgg, run_underlying Tryz.underlying58, sizeOf, typeInfo, hi, hs, h2, h3]
def ka (op : Int) : Nat := if 0 ≤ op ∧ op < 30 then (rowOf op.toNat).2.1 else 0
def kb (op : Int) : Nat := if 0 ≤ op ∧ op < 30 then (rowOf op.toNat).2.2.1 else 0
def knownB (op : Int) : Bool := decide (0 ≤ op) && decide (op < 30)
theorem known22_any (op : Int) (w : World) : Calls Tryz.prog 37 #[.int .i64 op] w fun e w' => e = .returned (.bool (knownB op)) ∧ w = w' := by
  by_cases h0 : 0 ≤ op
  · by_cases h1 : op < 30
    · have hk : knownB op = true := by simp [knownB, h0, h1]
      have HK := Lib.hid hk
      clear hk
      go_enter Tryz.func37, Tryz.ntmps37
      go_wp2
      go_ret
      exact ⟨by rw [HK.out]; rfl, rfl⟩
    · have hk : knownB op = false := by simp [knownB, h1]
      have HK := Lib.hid hk
      clear hk
      have h2 : decide (op < 30) = false := by simp; omega
      clear h1
      go_enter Tryz.func37, Tryz.ntmps37
      go_wp2
      go_ret
      exact ⟨by rw [HK.out]; rfl, rfl⟩
  · have hk : knownB op = false := by simp [knownB, h0]
    have HK := Lib.hid hk
    clear hk
    have h2 : decide (0 ≤ op) = false := by simp; omega
    clear h0
    go_enter Tryz.func37, Tryz.ntmps37
    go_wp2
    go_ret
    exact ⟨by rw [HK.out]; rfl, rfl⟩
set_option maxHeartbeats 1000000 in
theorem Kinds21_any (op : Int) (w : World) : Calls Tryz.prog 12 #[.int .i64 op] w fun e w' => e = .returned (.tuple #[.int .i64 (ka op), .int .i64 (kb op)]) ∧ Below w.heap.size w w' := by
  have HN := Lib.hid (known22_any op)
  by_cases h : 0 ≤ op ∧ op < 30
  · obtain ⟨k, rfl⟩ := Int.eq_ofNat_of_zero_le h.1
    have hk : k < 30 := by omega
    have ha : ka (k : Int) = (rowOf k).2.1 := by unfold ka; rw [if_pos h]; rfl
    have hb : kb (k : Int) = (rowOf k).2.2.1 := by unfold kb; rw [if_pos h]; rfl
    have hB : knownB (k : Int) = true := by unfold knownB; rw [decide_eq_true h.1, decide_eq_true h.2]; rfl
    rw [hB] at HN
    have HI := Lib.hid (index93 k hk)
    have HA := Lib.hid ha
    have HB := Lib.hid hb
    obtain ⟨r, hr⟩ : ∃ r, rowOf k = r := ⟨_, rfl⟩
    have hv : rowV k = .agg #[.string ⟨r.1.toArray⟩, .int .i64 r.2.1, .int .i64 r.2.2.1, .string ⟨r.2.2.2.1.toArray⟩, .string ⟨r.2.2.2.2.1.toArray⟩, .bool r.2.2.2.2.2] := by rw [← hr]; rfl
    rw [hr] at ha hb
    have HI2 : Hid (∀ w, (Instr.index 59 (.agg rowsC) (.int .i64 k)).run Tryz.prog w = .ok (.agg #[.string ⟨r.1.toArray⟩, .int .i64 r.2.1, .int .i64 r.2.2.1, .string ⟨r.2.2.2.1.toArray⟩, .string ⟨r.2.2.2.2.1.toArray⟩, .bool r.2.2.2.2.2]) w) := Lib.hid (fun w => by rw [← hv]; exact HI.out w)
    have HA2 := Lib.hid ha
    have HB2 := Lib.hid hb
    clear h hk ha hb hB HI HA HB hr hv
    generalize hR : Value.agg rowsC = R at *
    have hx := HI2.out
    have HR := Lib.hid hR
    clear hR
    go_enter Tryz.func12, Tryz.ntmps12
    go_wp2_with (first
      | (go_at_call 37; (with_reducible refine (HN.out _).mono ?_); rintro e w' ⟨rfl, rfl⟩)
      | (go_at_call 32; (with_reducible refine (rows41_any _).mono ?_); rintro e w1 ⟨rfl, hb1⟩; rw [HR.out]; have HB1 := Lib.hid hb1; clear hb1))
    go_quiet (fail)
    go_wp2
    go_ret2
    refine ⟨by rw [HA2.out, HB2.out]; rfl, ?_⟩
    exact pw_below_drewN ((below_step HB1.out (Below.alloc (Below.refl _ _) (Nat.le_refl _) _))) _
  · have hB : knownB op = false := by simp only [knownB, Bool.and_eq_false_iff, decide_eq_false_iff_not]; omega
    rw [hB] at HN
    have HA2 : Hid (ka op = 0) := Lib.hid (by simp only [ka, if_neg h])
    have HB2 : Hid (kb op = 0) := Lib.hid (by simp only [kb, if_neg h])
    clear h hB
    go_enter Tryz.func12, Tryz.ntmps12
    go_wp2_with (go_at_call 37; (with_reducible refine (HN.out _).mono ?_); rintro e w' ⟨rfl, rfl⟩)
    go_ret2
    exact ⟨by rw [HA2.out, HB2.out]; rfl, Below.refl _ _⟩
def lo (k : Nat) : Int := if k = 1 then -9223372036854775808 else if k = 2 ∨ k = 3 then 1 else 0
def hi (k : Nat) : Int := ([0, 9223372036854775807, 4, 3, 63, 63, 15, 63, 13, 8, 511] : List Int).getD k 0
def nameF (k : Nat) : Nat := if k = 8 then 60 else if k = 9 then 61 else 36
def isNamed (k : Nat) : Bool := k == 2 || k == 3 || k == 8 || k == 9
def FunsAt (W : World) (k : Nat) (sh rd : Value) : Prop :=
  if isNamed k then ∃ b, sh = .func (.func 89) #[] #[.pointer (some ⟨b + 2, 0, none⟩)] ∧ rd = .func (.func 88) #[] #[.pointer (some ⟨b, 0, none⟩), .pointer (some ⟨b + 1, 0, none⟩), .pointer (some ⟨b + 2, 0, none⟩)] ∧
    W.heap[b]? = some (.cells #[.int .i64 (lo k)] 3 (0, 0)) ∧ W.heap[b + 1]? = some (.cells #[.int .i64 (hi k + 1)] 3 (0, 0)) ∧ W.heap[b + 2]? = some (.cells #[.func (.func (nameF k)) #[] #[]] 45 (0, 0))
  else sh = .func (.func 86) #[] #[] ∧ rd = .func (.func 84) #[] #[]
def kindV (k : Nat) (sh rd : Value) : Value := .agg #[.int .i64 (lo k), .int .i64 (hi k), sh, rd]
theorem store_row {P : Program} {ops : Array Oper} {rest : List Oper} {o : Oper} {a : Act} {w : World} {Q : Exit → Act → World → Prop} (t : TypeId) (p x : Operand) (g : Nat) (c : Array Value) (l : List Value) (u : Value) (hN : o.dst = none) (hgd : o.guard = none) (ho : o.op = .store t p x)
    (haddr : a.eval p = .pointer (some ⟨g, 0, none⟩)) (hx : a.eval x = u) (hu : u.cells = l.toArray) (hg : w.heap[g]? = some (.cells c t (0, 0))) (hi : (P.info? t).map (·.size) = some l.length) (hc : c.size = l.length) (h1 : l.all (·.oneCell') = true)
    (h : ∀ W, Fr (fun i => i = g) w W → W.heap[g]? = some (.cells l.toArray t (0, 0)) → W.heap.size = w.heap.size → wpList P ops Q rest a W) : wpList P ops Q (o :: rest) a w := by
  refine wpList_plain hgd fun K hK => ?_
  have hlt : g < w.heap.size := (Array.getElem?_eq_some_iff.1 hg).1
  have hrun : (Instr.storeAt t (.pointer (some ⟨g, 0, none⟩)) u).run P w = .ok () (w.setRow g l.toArray) := by
    obtain ⟨i, hi', hsz⟩ := Option.map_eq_some_iff.1 hi
    have hst := run_storeCells_at (P := P) g 0 t l 0 c w hg (by omega) (fun v hv => List.all_eq_true.1 h1 v hv)
    have e : (c.toList.take (0 + 0) ++ l ++ c.toList.drop (0 + 0 + l.length)).toArray = l.toArray := by
      rw [List.take_zero, List.nil_append, List.drop_eq_nil_of_le (by simp; omega)]
      simp
    rw [e] at hst
    simp [Instr.storeAt, Instr.sureAddr, storeVar, sizeOf, typeInfo, hi', hsz, hu, hst]
  unfold Oper.wp execOp
  simp only [ho, haddr, hx, Sem.run_bind, Sem.run_pure, Result.andThen_ok, hrun]
  show K (a.put o.dst undef) _
  rw [hN]
  exact hK _ _ (h _ ⟨rfl, rfl, rfl, by simp, fun i _ hne => setRow_other w g i _ hne⟩ (setRow_heap w g _ _ t _ hg) (by simp))
theorem store_newL {P : Program} {ops : Array Oper} {rest : List Oper} {o : Oper} {a : Act} {w : World} {Q : Exit → Act → World → Prop} (t : TypeId) (p x : Operand) (c : Array Value) (l : List Value) (u : Value) (hN : o.dst = none) (hgd : o.guard = none) (ho : o.op = .store t p x)
    (haddr : a.eval p = .pointer (some ⟨w.heap.size, 0, none⟩)) (hx : a.eval x = u) (hu : u.cells = l.toArray) (hi : (P.info? t).map (·.size) = some l.length) (hc : c.size = l.length) (h1 : l.all (·.oneCell') = true)
    (h : wpList P ops Q rest a (w.alloc (.cells l.toArray t))) : wpList P ops Q (o :: rest) a (w.alloc (.cells c t)) :=
  store_new t p x c l.toArray u hN hgd ho haddr hx hu (by simpa using hi) (by simpa using hc) (by rw [List.all_toArray]; exact h1) h
structure Wrapped (p : Prop) : Prop where
  h : p
theorem blk_three (w : World) (o0 o1 o2 o3 : Obj) : ((((w.alloc o0).alloc o1).alloc o2).alloc o3).heap[w.heap.size]? = some o0 ∧ ((((w.alloc o0).alloc o1).alloc o2).alloc o3).heap[w.heap.size + 1]? = some o1 ∧ ((((w.alloc o0).alloc o1).alloc o2).alloc o3).heap[w.heap.size + 2]? = some o2 := by
  have e1 := World.alloc_heap_new (w.alloc o0) o1
  have e2 := World.alloc_heap_new ((w.alloc o0).alloc o1) o2
  rw [World.size_alloc] at e1
  rw [World.size_alloc, World.size_alloc] at e2
  refine ⟨?_, ?_, ?_⟩
  · rw [Below.heap_alloc _ _ _ (by simp; try omega), Below.heap_alloc _ _ _ (by simp; try omega), Below.heap_alloc _ _ _ (by simp)]; exact World.alloc_heap_new w o0
  · rw [Below.heap_alloc _ _ _ (by simp; try omega), Below.heap_alloc _ _ _ (by simp)]; exact e1
  · rw [Below.heap_alloc _ _ _ (by simp; try omega)]; exact e2
theorem number42_any (a b : Int) (w : World) : Calls Tryz.prog 58 #[.int .i64 a, .int .i64 b] w fun e w' => e = .returned (.agg #[.int .i64 a, .int .i64 b, .func (.func 86) #[] #[], .func (.func 84) #[] #[]]) ∧ Below w.heap.size w w' := by
  go_enter Tryz.func58, Tryz.ntmps58
  go_wp2
  exact bodyPost_ret (results_cell_row rfl _ _ w.heap.size 68 _ (0, 0) _ rfl (World.alloc_heap_new w _) Tryz.underlying68 rfl (by kernel_rfl)) rfl ⟨rfl, (Below.refl _ _).alloc (Nat.le_refl _) _⟩
theorem named43_any (a b : Int) (f : Nat) (w : World) (h0 : -1000 ≤ b) (h1 : b ≤ 1000) : Calls Tryz.prog 59 #[.int .i64 a, .int .i64 b, .func (.func f) #[] #[]] w fun e w' =>
    e = .returned (.agg #[.int .i64 a, .int .i64 (b - 1), .func (.func 89) #[] #[.pointer (some ⟨w.heap.size + 2, 0, none⟩)], .func (.func 88) #[] #[.pointer (some ⟨w.heap.size, 0, none⟩), .pointer (some ⟨w.heap.size + 1, 0, none⟩), .pointer (some ⟨w.heap.size + 2, 0, none⟩)]]) ∧ Below w.heap.size w w' ∧
    w'.heap[w.heap.size]? = some (.cells #[.int .i64 a] 3 (0, 0)) ∧ w'.heap[w.heap.size + 1]? = some (.cells #[.int .i64 b] 3 (0, 0)) ∧ w'.heap[w.heap.size + 2]? = some (.cells #[.func (.func f) #[] #[]] 45 (0, 0)) := by
  go_enter Tryz.func59, Tryz.ntmps59
  go_wp2
  refine bodyPost_ret (results_cell_row rfl _ _ (w.heap.size + 1 + 1 + 1) 68 _ (0, 0) _ rfl ?_ Tryz.underlying68 rfl (by kernel_rfl)) rfl ⟨rfl, ?_, ?_, ?_, ?_⟩
  · have := World.alloc_heap_new (((w.alloc (.cells #[.int .i64 a] 3)).alloc (.cells #[.int .i64 b] 3)).alloc (.cells #[.func (.func f) #[] #[]] 45)) (.cells #[.int .i64 a, .int .i64 (b - 1), .func (.func 89) #[] #[.pointer (some ⟨w.heap.size + 2, 0, none⟩)], .func (.func 88) #[] #[.pointer (some ⟨w.heap.size, 0, none⟩), .pointer (some ⟨w.heap.size + 1, 0, none⟩), .pointer (some ⟨w.heap.size + 2, 0, none⟩)]] 68)
    simpa using this
  · exact below_alloc (below_alloc (below_alloc (below_alloc (Below.refl _ _) _) _) _) _
  · exact (blk_three w _ _ _ _).1
  · exact (blk_three w _ _ _ _).2.1
  · exact (blk_three w _ _ _ _).2.2
theorem in24_any (a b n : Int) (sh rd : Value) (w : World) : Calls Tryz.prog 39 #[.agg #[.int .i64 a, .int .i64 b, sh, rd], .int .i64 n] w fun e w' => e = .returned (.bool (decide (a ≤ n) && decide (n ≤ b))) ∧ Below w.heap.size w w' := by
  by_cases h : a ≤ n
  · by_cases h2 : n ≤ b
    · go_enter Tryz.func39, Tryz.ntmps39
      go_wp2
      go_ret
      exact ⟨by simp [h, h2], (Below.refl _ _).alloc (Nat.le_refl _) _⟩
    · have h3 : decide (n ≤ b) = false := by simpa using h2
      go_enter Tryz.func39, Tryz.ntmps39
      go_wp2
      go_ret
      exact ⟨by simp, (Below.refl _ _).alloc (Nat.le_refl _) _⟩
  · have h3 : decide (a ≤ n) = false := by simpa using h
    go_enter Tryz.func39, Tryz.ntmps39
    go_wp2
    go_ret
    exact ⟨by simp, (Below.refl _ _).alloc (Nat.le_refl _) _⟩
theorem named_funs {W : World} {k b : Nat} (hk : isNamed k = true) (h0 : W.heap[b]? = some (.cells #[.int .i64 (lo k)] 3 (0, 0))) (h1 : W.heap[b + 1]? = some (.cells #[.int .i64 (hi k + 1)] 3 (0, 0))) (h2 : W.heap[b + 2]? = some (.cells #[.func (.func (nameF k)) #[] #[]] 45 (0, 0))) :
    FunsAt W k (.func (.func 89) #[] #[.pointer (some ⟨b + 2, 0, none⟩)]) (.func (.func 88) #[] #[.pointer (some ⟨b, 0, none⟩), .pointer (some ⟨b + 1, 0, none⟩), .pointer (some ⟨b + 2, 0, none⟩)]) := by
  unfold FunsAt
  rw [if_pos hk]
  exact ⟨b, rfl, rfl, h0, h1, h2⟩
theorem number_funs {W : World} {k : Nat} (hk : isNamed k = false) : FunsAt W k (.func (.func 86) #[] #[]) (.func (.func 84) #[] #[]) := by
  unfold FunsAt
  rw [if_neg (by rw [hk]; decide)]
  exact ⟨rfl, rfl⟩
theorem FunsAt.below {W W' : World} {k : Nat} {sh rd : Value} (h : FunsAt W k sh rd) (hb : Below W.heap.size W W') : FunsAt W' k sh rd := by
  by_cases hk : isNamed k = true
  all_goals
    unfold FunsAt at h ⊢
    first | rw [if_pos hk] at h ⊢ | rw [if_neg hk] at h ⊢
  · obtain ⟨b, h1, h2, h3, h4, h5⟩ := h
    have hf : Fr (fun _ => False) W W' := Fr.of_below hb
    exact ⟨b, h1, h2, hf.at h3 id, hf.at h4 id, hf.at h5 id⟩
  · exact h
theorem FunsAt.fr57 {X Y : World} {k g : Nat} {sh rd : Value} {c : Array Value} (h : FunsAt X k sh rd) (hg : X.heap[g]? = some (.cells c 68 (0, 0))) (hf : Fr (fun i => i = g) X Y) : FunsAt Y k sh rd := by
  have ne : ∀ {b : Nat} {d : Array Value} {t : TypeId}, X.heap[b]? = some (.cells d t (0, 0)) → t ≠ 68 → b ≠ g := fun {b d t} h1 h2 e => by
    subst e
    rw [hg] at h1
    injection h1 with h1
    injection h1 with _ h1
    exact h2 h1.symm
  by_cases hk : isNamed k = true
  all_goals
    unfold FunsAt at h ⊢
    first | rw [if_pos hk] at h ⊢ | rw [if_neg hk] at h ⊢
  · obtain ⟨b, h1, h2, h3, h4, h5⟩ := h
    exact ⟨b, h1, h2, hf.at h3 (ne h3 (by decide)), hf.at h4 (ne h4 (by decide)), hf.at h5 (ne h5 (by decide))⟩
  · exact h
theorem named_2 (w : World) : Calls Tryz.prog 59 #[.int .i64 1, .int .i64 5, .func (.func 36) #[] #[]] w fun e w' => ∃ b : Nat, e = .returned (.agg #[.int .i64 1, .int .i64 4, .func (.func 89) #[] #[.pointer (some ⟨b + 2, 0, none⟩)], .func (.func 88) #[] #[.pointer (some ⟨b, 0, none⟩), .pointer (some ⟨b + 1, 0, none⟩), .pointer (some ⟨b + 2, 0, none⟩)]]) ∧ FunsAt w' 2 (.func (.func 89) #[] #[.pointer (some ⟨b + 2, 0, none⟩)]) (.func (.func 88) #[] #[.pointer (some ⟨b, 0, none⟩), .pointer (some ⟨b + 1, 0, none⟩), .pointer (some ⟨b + 2, 0, none⟩)]) ∧ Below w.heap.size w w' :=
  (named43_any 1 5 36 w (by decide) (by decide)).mono fun _ _ ⟨h1, h2, h3, h4, h5⟩ => ⟨_, h1, named_funs rfl h3 h4 h5, h2⟩
theorem named_3 (w : World) : Calls Tryz.prog 59 #[.int .i64 1, .int .i64 4, .func (.func 36) #[] #[]] w fun e w' => ∃ b : Nat, e = .returned (.agg #[.int .i64 1, .int .i64 3, .func (.func 89) #[] #[.pointer (some ⟨b + 2, 0, none⟩)], .func (.func 88) #[] #[.pointer (some ⟨b, 0, none⟩), .pointer (some ⟨b + 1, 0, none⟩), .pointer (some ⟨b + 2, 0, none⟩)]]) ∧ FunsAt w' 3 (.func (.func 89) #[] #[.pointer (some ⟨b + 2, 0, none⟩)]) (.func (.func 88) #[] #[.pointer (some ⟨b, 0, none⟩), .pointer (some ⟨b + 1, 0, none⟩), .pointer (some ⟨b + 2, 0, none⟩)]) ∧ Below w.heap.size w w' :=
  (named43_any 1 4 36 w (by decide) (by decide)).mono fun _ _ ⟨h1, h2, h3, h4, h5⟩ => ⟨_, h1, named_funs rfl h3 h4 h5, h2⟩
theorem named_8 (w : World) : Calls Tryz.prog 59 #[.int .i64 0, .int .i64 14, .func (.func 60) #[] #[]] w fun e w' => ∃ b : Nat, e = .returned (.agg #[.int .i64 0, .int .i64 13, .func (.func 89) #[] #[.pointer (some ⟨b + 2, 0, none⟩)], .func (.func 88) #[] #[.pointer (some ⟨b, 0, none⟩), .pointer (some ⟨b + 1, 0, none⟩), .pointer (some ⟨b + 2, 0, none⟩)]]) ∧ FunsAt w' 8 (.func (.func 89) #[] #[.pointer (some ⟨b + 2, 0, none⟩)]) (.func (.func 88) #[] #[.pointer (some ⟨b, 0, none⟩), .pointer (some ⟨b + 1, 0, none⟩), .pointer (some ⟨b + 2, 0, none⟩)]) ∧ Below w.heap.size w w' :=
  (named43_any 0 14 60 w (by decide) (by decide)).mono fun _ _ ⟨h1, h2, h3, h4, h5⟩ => ⟨_, h1, named_funs rfl h3 h4 h5, h2⟩
theorem named_9 (w : World) : Calls Tryz.prog 59 #[.int .i64 0, .int .i64 9, .func (.func 61) #[] #[]] w fun e w' => ∃ b : Nat, e = .returned (.agg #[.int .i64 0, .int .i64 8, .func (.func 89) #[] #[.pointer (some ⟨b + 2, 0, none⟩)], .func (.func 88) #[] #[.pointer (some ⟨b, 0, none⟩), .pointer (some ⟨b + 1, 0, none⟩), .pointer (some ⟨b + 2, 0, none⟩)]]) ∧ FunsAt w' 9 (.func (.func 89) #[] #[.pointer (some ⟨b + 2, 0, none⟩)]) (.func (.func 88) #[] #[.pointer (some ⟨b, 0, none⟩), .pointer (some ⟨b + 1, 0, none⟩), .pointer (some ⟨b + 2, 0, none⟩)]) ∧ Below w.heap.size w w' :=
  (named43_any 0 9 61 w (by decide) (by decide)).mono fun _ _ ⟨h1, h2, h3, h4, h5⟩ => ⟨_, h1, named_funs rfl h3 h4 h5, h2⟩
end Go.Proofs.YtamagdnlicnefaaGreatDoor
namespace Go.Proofs.YtamagdnlicnefaaGreatDoor
open Go.RowKit Go.Proofs.YtamagdnlicnefaaGreatDoorW.PrintWords Go.Proofs.YtamagdnlicnefaaGreatDoorW.PrintLast Go.Proofs.YtamagdnlicnefaaGreatDoorW.PrintMore

set_option maxRecDepth 100000 in
set_option maxHeartbeats 4000000 in
theorem of23_any (k : Nat) (hk : k ≤ 10) (w : World) : Calls Tryz.prog 38 #[.int .i64 k] w fun e w' => ∃ sh rd, e = .returned (kindV k sh rd) ∧ FunsAt w' k sh rd ∧ Below w.heap.size w w' := by
  have H0 : Hid (Below w.heap.size w (w.alloc (.cells #[.int .i64 0, .int .i64 0, .nilFunc, .nilFunc] 68))) := Lib.hid (below_alloc (Below.refl _ _) _)
  have B0 : Hid ((w.alloc (.cells #[.int .i64 0, .int .i64 0, .nilFunc, .nilFunc] 68)).heap[w.heap.size]? = some (.cells #[.int .i64 0, .int .i64 0, .nilFunc, .nilFunc] 68 (0, 0))) := Lib.hid (World.alloc_heap_new w _)
  have hk2 : ((k : Int)) ≤ 10 := by omega
  go_enter Tryz.func38, Tryz.ntmps38
  go_wp2_with fail
  generalize w.alloc (.cells #[.int .i64 0, .int .i64 0, .nilFunc, .nilFunc] 68) = W0 at *
  refine (number42_any _ _ _).mono ?_
  rintro e W1 ⟨rfl, hb⟩
  have L0 := Lib.hid hb
  have H1 := Lib.hid (below_step H0.out hb)
  clear hb
  go_wp2_with fail
  refine (number42_any _ _ _).mono ?_
  rintro e W2 ⟨rfl, hb⟩
  have H2 := Lib.hid (below_step H1.out hb)
  replace L0 := Lib.hid (below_step L0.out hb)
  clear hb
  go_wp2_with fail
  refine (named_2 _).mono ?_
  rintro e W3 ⟨b2, rfl, hf, hb⟩
  have F2 := Lib.hid hf
  have H3 := Lib.hid (below_step H2.out hb)
  replace L0 := Lib.hid (below_step L0.out hb)
  clear hb hf
  go_wp2_with fail
  refine (named_3 _).mono ?_
  rintro e W4 ⟨b3, rfl, hf, hb⟩
  have F3 := Lib.hid hf
  replace F2 := Lib.hid (F2.out.below hb)
  have H4 := Lib.hid (below_step H3.out hb)
  replace L0 := Lib.hid (below_step L0.out hb)
  clear hb hf
  go_wp2_with fail
  refine (number42_any _ _ _).mono ?_
  rintro e W5 ⟨rfl, hb⟩
  replace F2 := Lib.hid (F2.out.below hb)
  replace F3 := Lib.hid (F3.out.below hb)
  have H5 := Lib.hid (below_step H4.out hb)
  replace L0 := Lib.hid (below_step L0.out hb)
  clear hb
  go_wp2_with fail
  refine (number42_any _ _ _).mono ?_
  rintro e W6 ⟨rfl, hb⟩
  replace F2 := Lib.hid (F2.out.below hb)
  replace F3 := Lib.hid (F3.out.below hb)
  have H6 := Lib.hid (below_step H5.out hb)
  replace L0 := Lib.hid (below_step L0.out hb)
  clear hb
  go_wp2_with fail
  refine (number42_any _ _ _).mono ?_
  rintro e W7 ⟨rfl, hb⟩
  replace F2 := Lib.hid (F2.out.below hb)
  replace F3 := Lib.hid (F3.out.below hb)
  have H7 := Lib.hid (below_step H6.out hb)
  replace L0 := Lib.hid (below_step L0.out hb)
  clear hb
  go_wp2_with fail
  refine (number42_any _ _ _).mono ?_
  rintro e W8 ⟨rfl, hb⟩
  replace F2 := Lib.hid (F2.out.below hb)
  replace F3 := Lib.hid (F3.out.below hb)
  have H8 := Lib.hid (below_step H7.out hb)
  replace L0 := Lib.hid (below_step L0.out hb)
  clear hb
  go_wp2_with fail
  refine (named_8 _).mono ?_
  rintro e W9 ⟨b8, rfl, hf, hb⟩
  have F8 := Lib.hid hf
  replace F2 := Lib.hid (F2.out.below hb)
  replace F3 := Lib.hid (F3.out.below hb)
  have H9 := Lib.hid (below_step H8.out hb)
  replace L0 := Lib.hid (below_step L0.out hb)
  clear hb hf
  go_wp2_with fail
  refine (named_9 _).mono ?_
  rintro e W10 ⟨b9, rfl, hf, hb⟩
  have F9 := Lib.hid hf
  replace F2 := Lib.hid (F2.out.below hb)
  replace F3 := Lib.hid (F3.out.below hb)
  replace F8 := Lib.hid (F8.out.below hb)
  have H10 := Lib.hid (below_step H9.out hb)
  replace L0 := Lib.hid (below_step L0.out hb)
  clear hb hf
  go_wp2_with fail
  refine (number42_any _ _ _).mono ?_
  rintro e W11 ⟨rfl, hb⟩
  replace F2 := Lib.hid (F2.out.below hb)
  replace F3 := Lib.hid (F3.out.below hb)
  replace F8 := Lib.hid (F8.out.below hb)
  replace F9 := Lib.hid (F9.out.below hb)
  have H11 := Lib.hid (below_step H10.out hb)
  replace L0 := Lib.hid (below_step L0.out hb)
  clear hb
  go_wp2_with (first | ((with_reducible refine gate_ (.store 108 (.tmp 3) (.tmp 15)) rfl ?_); refine store_newL 108 (.tmp 3) (.tmp 15) _ [.int .i64 0, .int .i64 0, .func (.func 86) #[] #[], .func (.func 84) #[] #[], .int .i64 (-9223372036854775808), .int .i64 9223372036854775807, .func (.func 86) #[] #[], .func (.func 84) #[] #[], .int .i64 1, .int .i64 4, .func (.func 89) #[] #[.pointer (some ⟨b2 + 2, 0, none⟩)], .func (.func 88) #[] #[.pointer (some ⟨b2, 0, none⟩), .pointer (some ⟨b2 + 1, 0, none⟩), .pointer (some ⟨b2 + 2, 0, none⟩)], .int .i64 1, .int .i64 3, .func (.func 89) #[] #[.pointer (some ⟨b3 + 2, 0, none⟩)], .func (.func 88) #[] #[.pointer (some ⟨b3, 0, none⟩), .pointer (some ⟨b3 + 1, 0, none⟩), .pointer (some ⟨b3 + 2, 0, none⟩)], .int .i64 0, .int .i64 63, .func (.func 86) #[] #[], .func (.func 84) #[] #[], .int .i64 0, .int .i64 63, .func (.func 86) #[] #[], .func (.func 84) #[] #[], .int .i64 0, .int .i64 15, .func (.func 86) #[] #[], .func (.func 84) #[] #[], .int .i64 0, .int .i64 63, .func (.func 86) #[] #[], .func (.func 84) #[] #[], .int .i64 0, .int .i64 13, .func (.func 89) #[] #[.pointer (some ⟨b8 + 2, 0, none⟩)], .func (.func 88) #[] #[.pointer (some ⟨b8, 0, none⟩), .pointer (some ⟨b8 + 1, 0, none⟩), .pointer (some ⟨b8 + 2, 0, none⟩)], .int .i64 0, .int .i64 8, .func (.func 89) #[] #[.pointer (some ⟨b9 + 2, 0, none⟩)], .func (.func 88) #[] #[.pointer (some ⟨b9, 0, none⟩), .pointer (some ⟨b9 + 1, 0, none⟩), .pointer (some ⟨b9 + 2, 0, none⟩)], .int .i64 0, .int .i64 511, .func (.func 86) #[] #[], .func (.func 84) #[] #[]] _ rfl rfl rfl rfl rfl rfl (by kernel_rfl) rfl rfl ?_) | ((with_reducible refine gate_ (.indexAddr 108 (.tmp 3) (.tmp 16)) rfl ?_); refine Wrapped.h ?_))
  have hB : W11.heap[w.heap.size]? = some (.cells #[.int .i64 0, .int .i64 0, .nilFunc, .nilFunc] 68 (0, 0)) := (L0.out.block _ (blk_lt B0.out)).trans B0.out
  have HB2 : Hid (∀ o, (W11.alloc o).heap[w.heap.size]? = some (.cells #[.int .i64 0, .int .i64 0, .nilFunc, .nilFunc] 68 (0, 0))) := Lib.hid (fun o => by rw [Below.heap_alloc _ _ _ (blk_lt hB)]; exact hB)
  have hk' : k = 0 ∨ k = 1 ∨ k = 2 ∨ k = 3 ∨ k = 4 ∨ k = 5 ∨ k = 6 ∨ k = 7 ∨ k = 8 ∨ k = 9 ∨ k = 10 := by omega
  clear hk hk2 hB
  have fin : ∀ (k : Nat) (o : Obj) (W : World) (sh rd : Value), FunsAt W11 k sh rd → Fr (fun i => i = w.heap.size) (W11.alloc o) W → FunsAt W k sh rd ∧ Below w.heap.size w W := fun k o W sh rd h1 h2 =>
    ⟨(h1.below (below_alloc (Below.refl _ _) o)).fr57 (HB2.out o) h2, (below_alloc H11.out o).trans (h2.below (below_alloc H11.out o).size (fun i hi e => by omega))⟩
  have FIN := Lib.hid fin
  clear fin
  rcases hk' with rfl | rfl | rfl | rfl | rfl | rfl | rfl | rfl | rfl | rfl | rfl
  all_goals as_aux_lemma =>
    refine Wrapped.mk ?_
    go_wp2_with ((with_reducible refine gate_ (.store 68 (.tmp 2) (.tmp 18)) rfl ?_); refine Wrapped.h ?_)
    refine Wrapped.mk ?_
    refine store_row 68 (.tmp 2) (.tmp 18) w.heap.size _ [_, _, _, _] _ rfl rfl rfl rfl rfl rfl (HB2.out _) (by kernel_rfl) rfl rfl ?_
    intro W hF hW hz
    go_wp2
    have hN := FIN.out
    first
      | exact bodyPost_ret (results_cell_row rfl _ _ w.heap.size 68 _ (0, 0) _ rfl hW Tryz.underlying68 rfl (by kernel_rfl)) rfl ⟨_, _, rfl, hN _ _ _ _ _ (number_funs rfl) hF⟩
      | exact bodyPost_ret (results_cell_row rfl _ _ w.heap.size 68 _ (0, 0) _ rfl hW Tryz.underlying68 rfl (by kernel_rfl)) rfl ⟨_, _, rfl, hN _ _ _ _ _ F2.out hF⟩
      | exact bodyPost_ret (results_cell_row rfl _ _ w.heap.size 68 _ (0, 0) _ rfl hW Tryz.underlying68 rfl (by kernel_rfl)) rfl ⟨_, _, rfl, hN _ _ _ _ _ F3.out hF⟩
      | exact bodyPost_ret (results_cell_row rfl _ _ w.heap.size 68 _ (0, 0) _ rfl hW Tryz.underlying68 rfl (by kernel_rfl)) rfl ⟨_, _, rfl, hN _ _ _ _ _ F8.out hF⟩
      | exact bodyPost_ret (results_cell_row rfl _ _ w.heap.size 68 _ (0, 0) _ rfl hW Tryz.underlying68 rfl (by kernel_rfl)) rfl ⟨_, _, rfl, hN _ _ _ _ _ F9.out hF⟩
end Go.Proofs.YtamagdnlicnefaaGreatDoor
namespace Go.Proofs.YtamagdnlicnefaaGreatDoor
open Go.RowKit Go.Proofs.YtamagdnlicnefaaGreatDoorW.PrintWords Go.Proofs.YtamagdnlicnefaaGreatDoorW.PrintLast Go.Proofs.YtamagdnlicnefaaGreatDoorW.PrintMore
def inB (k : Nat) (n : Int) : Bool := decide (lo k ≤ n) && decide (n ≤ hi k)
def okB (op a b : Int) : Bool := knownB op && (inB (ka op) a && inB (kb op) b)
theorem ka_le (op : Int) : ka op ≤ 10 := by
  unfold ka
  split
  · rename_i h
    obtain ⟨n, rfl⟩ := Int.eq_ofNat_of_zero_le h.1
    have : ∀ k : Fin 30, (rowOf k.val).2.1 ≤ 10 := by decide +kernel
    exact this ⟨n, by omega⟩
  · omega
theorem kb_le (op : Int) : kb op ≤ 10 := by
  unfold kb
  split
  · rename_i h
    obtain ⟨n, rfl⟩ := Int.eq_ofNat_of_zero_le h.1
    have : ∀ k : Fin 30, (rowOf k.val).2.2.1 ≤ 10 := by decide +kernel
    exact this ⟨n, by omega⟩
  · omega
def codeE (ok : Bool) : Int := if ok then 0 else 40
theorem of23_at (k : Nat) (hk : k ≤ 10) (w : World) : Calls Tryz.prog 38 #[.int .i64 k] w fun e w' => ∃ sh rd, e = .returned (.agg #[.int .i64 (lo k), .int .i64 (hi k), sh, rd]) ∧ FunsAt w' k sh rd ∧ Below w.heap.size w w' := of23_any k hk w
set_option maxRecDepth 100000 in
set_option maxHeartbeats 4000000 in
theorem Check8_any (op a b : Int) (w : World) : Calls Tryz.prog 8 #[.agg #[.int .i64 op, .int .i64 a, .int .i64 b]] w fun e w' => e = .returned (.int .i64 (codeE (okB op a b))) ∧ Below w.heap.size w w' := by
  have HK := Lib.hid (Kinds21_any op)
  have HA := Lib.hid (of23_at (ka op) (ka_le op))
  have HB := Lib.hid (of23_at (kb op) (kb_le op))
  by_cases hk : knownB op = true
  · have HN : Hid (∀ w, Calls Tryz.prog 37 #[.int .i64 op] w fun e w' => e = .returned (.bool true) ∧ w = w') := Lib.hid (fun w => by rw [← hk]; exact known22_any op w)
    by_cases h1 : inB (ka op) a = true
    · have HI1 : Hid (∀ sh rd w, Calls Tryz.prog 39 #[.agg #[.int .i64 (lo (ka op)), .int .i64 (hi (ka op)), sh, rd], .int .i64 a] w fun e w' => e = .returned (.bool true) ∧ Below w.heap.size w w') := Lib.hid (fun sh rd w => by rw [← h1]; exact in24_any _ _ _ sh rd w)
      by_cases h2 : inB (kb op) b = true
      · have HI2 : Hid (∀ sh rd w, Calls Tryz.prog 39 #[.agg #[.int .i64 (lo (kb op)), .int .i64 (hi (kb op)), sh, rd], .int .i64 b] w fun e w' => e = .returned (.bool true) ∧ Below w.heap.size w w') := Lib.hid (fun sh rd w => by rw [← h2]; exact in24_any _ _ _ sh rd w)
        have HO : Hid (okB op a b = true) := Lib.hid (by unfold okB; rw [hk, h1, h2]; simp)
        clear hk h1 h2
        go_enter Tryz.func8, Tryz.ntmps8
        have hw0 : Below w.heap.size w (w.alloc (.cells #[.int .i64 op, .int .i64 a, .int .i64 b] 23)) := below_alloc (Below.refl _ _) _
        have hx0 := World.alloc_heap_new w (.cells #[.int .i64 op, .int .i64 a, .int .i64 b] 23)
        have HW0 := Lib.hid hw0
        have HX0 := Lib.hid hx0
        clear hw0 hx0
        go_wp2_with (go_at_call 12; (with_reducible refine (HK.out _).mono ?_); rintro e w1 ⟨rfl, hb1⟩; have hx1 := (hb1.block _ (blk_lt HX0.out)).trans HX0.out; have HL := Lib.hid (below_step HW0.out hb1); have HX1 := Lib.hid hx1; clear hb1 hx1)
        have HQ : Hid (∀ W, Below w1.heap.size w1 W → W.cell? ⟨w.heap.size, 0, none⟩ = some (.int .i64 op) ∧ W.cell? ⟨w.heap.size, 1, none⟩ = some (.int .i64 a) ∧ W.cell? ⟨w.heap.size, 2, none⟩ = some (.int .i64 b)) := Lib.hid (fun W hW => by
          have h := (hW.block _ (blk_lt HX1.out)).trans HX1.out
          exact ⟨blk_cell h 0, blk_cell h 1, blk_cell h 2⟩)
        have HW : Hid (Below w1.heap.size w1 w1.drew) := Lib.hid (below_drew (Below.refl _ _))
        -- region 2: 20 operations: 0:fieldAddr 1:load 2:call 3:unOp 4:move 5:move 6:call 7:fieldAddr 8:load 9:call 10:unOp 11:pick 12:move 13:move 14:call 15:fieldAddr 16:load 17:call 18:unOp 19:pick
        refine start_ (S := fun W' => W'.cell? ⟨w.heap.size, 0, none⟩ = some (.int .i64 op) ∧ W'.cell? ⟨w.heap.size, 1, none⟩ = some (.int .i64 a) ∧ W'.cell? ⟨w.heap.size, 2, none⟩ = some (.int .i64 b)) (ds := []) #[false, false, false, false, false, false, false, false, false, false, false, false, false, false, false, false, false, false, false, false] (by kernel_rfl) rfl rfl (HQ.out _ HW.out) (fun hHeld => ?_)
        refine pure_ (i := 0) (N := some 11) (v := ?_) (a' := ?_) #[true, false, false, false, false, false, false, false, false, false, false, false, false, false, false, false, false, false, false, false] rfl rfl (by kernel_rfl) (fun _ _ _ h => h) (Or.inl ⟨by rfl, ?_⟩) ?_ ?_
        rotate_left
        · intro w'
          go_simp
          with_reducible rfl
        rotate_left
        · simp only [Act.put, List.setIfInBounds_toArray, List.set_cons_zero, List.set_cons_succ]
          rfl
        refine take_ (i := 1) (N := some 12) (v := ?_) (a' := ?_) #[true, true, false, false, false, false, false, false, false, false, false, false, false, false, false, false, false, false, false, false] rfl rfl (by kernel_rfl) (fun _ _ _ h => h) (Or.inl ⟨by rfl, ?_⟩) hHeld ?_ ?_
        rotate_left
        · rintro w' ⟨h0, h1, h2⟩
          go_simp
          with_reducible rfl
        rotate_left
        · simp only [Act.put, List.setIfInBounds_toArray, List.set_cons_zero, List.set_cons_succ]
          rfl
        refine one_ (i := 2) (N := some 13) #[true, true, true, false, false, false, false, false, false, false, false, false, false, false, false, false, false, false, false, false] rfl rfl (by kernel_rfl) (by decide) (fun K hK => ?_)
        refine goes_ Tryz.func37 (by kernel_rfl) rfl #[.int .i64 op] (by rfl) rfl rfl (by simp only [List.map_toArray, List.map_cons, List.map_nil]; rfl) ?_
        with_reducible refine (HN.out _).mono ?_
        rintro e w_ ⟨rfl, rfl⟩
        refine ⟨_, rfl, ?_⟩
        refine hK.out _ _ (HQ.out _ HW.out) (fun hHeld => ?_)
        clear hK K
        refine norm_ (a' := ?_) ?_ ?_
        rotate_left
        · show Act.put _ (some 13) _ = _
          simp only [Act.put, List.setIfInBounds_toArray, List.set_cons_zero, List.set_cons_succ]
          rfl
        refine pure_ (i := 3) (N := some 14) (v := ?_) (a' := ?_) #[true, true, true, true, false, false, false, false, false, false, false, false, false, false, false, false, false, false, false, false] rfl rfl (by kernel_rfl) (fun _ _ _ h => h) (Or.inl ⟨by rfl, ?_⟩) ?_ ?_
        rotate_left
        · intro w'
          go_simp
          with_reducible rfl
        rotate_left
        · simp only [Act.put, List.setIfInBounds_toArray, List.set_cons_zero, List.set_cons_succ]
          rfl
        refine pure_ (i := 4) (N := some 15) (v := ?_) (a' := ?_) #[true, true, true, true, true, false, false, false, false, false, false, false, false, false, false, false, false, false, false, false] rfl rfl (by kernel_rfl) (fun _ _ _ h => h) (Or.inl ⟨by rfl, ?_⟩) ?_ ?_
        rotate_left
        · intro w'
          go_simp
          with_reducible rfl
        rotate_left
        · simp only [Act.put, List.setIfInBounds_toArray, List.set_cons_zero, List.set_cons_succ]
          rfl
        refine pure_ (i := 5) (N := some 16) (v := ?_) (a' := ?_) #[true, true, true, true, true, true, false, false, false, false, false, false, false, false, false, false, false, false, false, false] rfl rfl (by kernel_rfl) (fun _ _ _ h => h) (Or.inl ⟨by rfl, ?_⟩) ?_ ?_
        rotate_left
        · intro w'
          go_simp
          with_reducible rfl
        rotate_left
        · simp only [Act.put, List.setIfInBounds_toArray, List.set_cons_zero, List.set_cons_succ]
          rfl
        refine pure_ (i := 7) (N := some 18) (v := ?_) (a' := ?_) #[true, true, true, true, true, true, false, true, false, false, false, false, false, false, false, false, false, false, false, false] rfl rfl (by kernel_rfl) (fun _ _ _ h => h) (Or.inl ⟨by rfl, ?_⟩) ?_ ?_
        rotate_left
        · intro w'
          go_simp
          with_reducible rfl
        rotate_left
        · simp only [Act.put, List.setIfInBounds_toArray, List.set_cons_zero, List.set_cons_succ]
          rfl
        refine take_ (i := 8) (N := some 19) (v := ?_) (a' := ?_) #[true, true, true, true, true, true, false, true, true, false, false, false, false, false, false, false, false, false, false, false] rfl rfl (by kernel_rfl) (fun _ _ _ h => h) (Or.inl ⟨by rfl, ?_⟩) hHeld ?_ ?_
        rotate_left
        · rintro w' ⟨h0, h1, h2⟩
          go_simp
          with_reducible rfl
        rotate_left
        · simp only [Act.put, List.setIfInBounds_toArray, List.set_cons_zero, List.set_cons_succ]
          rfl
        refine one_ (i := 6) (N := some 17) #[true, true, true, true, true, true, true, true, true, false, false, false, false, false, false, false, false, false, false, false] rfl rfl (by kernel_rfl) (by decide) (fun K hK => ?_)
        refine goes_ Tryz.func38 (by kernel_rfl) rfl #[.int .i64 (ka op : Int)] (by rfl) rfl rfl (by simp only [List.map_toArray, List.map_cons, List.map_nil]; rfl) ?_
        with_reducible refine (HA.out _).mono ?_
        rintro e w_ ⟨sh1, rd1, rfl, _, hb_⟩
        refine ⟨_, rfl, ?_⟩
        have HW_ := Lib.hid (below_step HW.out hb_)
        clear HW
        have HW := HW_
        clear HW_ hb_
        refine hK.out _ _ (HQ.out _ HW.out) (fun hHeld => ?_)
        clear hK K
        refine norm_ (a' := ?_) ?_ ?_
        rotate_left
        · show Act.put _ (some 17) _ = _
          simp only [Act.put, List.setIfInBounds_toArray, List.set_cons_zero, List.set_cons_succ]
          rfl
        refine one_ (i := 9) (N := some 20) #[true, true, true, true, true, true, true, true, true, true, false, false, false, false, false, false, false, false, false, false] rfl rfl (by kernel_rfl) (by decide) (fun K hK => ?_)
        refine goes_ Tryz.func39 (by kernel_rfl) rfl #[.agg #[.int .i64 (lo (ka op)), .int .i64 (hi (ka op)), sh1, rd1], .int .i64 a] (by rfl) rfl rfl (by simp only [List.map_toArray, List.map_cons, List.map_nil]; rfl) ?_
        with_reducible refine (HI1.out _ _ _).mono ?_
        rintro e w_ ⟨rfl, hb_⟩
        refine ⟨_, rfl, ?_⟩
        have HW_ := Lib.hid (below_step HW.out hb_)
        clear HW
        have HW := HW_
        clear HW_ hb_
        refine hK.out _ _ (HQ.out _ HW.out) (fun hHeld => ?_)
        clear hK K
        refine norm_ (a' := ?_) ?_ ?_
        rotate_left
        · show Act.put _ (some 20) _ = _
          simp only [Act.put, List.setIfInBounds_toArray, List.set_cons_zero, List.set_cons_succ]
          rfl
        refine pure_ (i := 10) (N := some 21) (v := ?_) (a' := ?_) #[true, true, true, true, true, true, true, true, true, true, true, false, false, false, false, false, false, false, false, false] rfl rfl (by kernel_rfl) (fun _ _ _ h => h) (Or.inl ⟨by rfl, ?_⟩) ?_ ?_
        rotate_left
        · intro w'
          go_simp
          with_reducible rfl
        rotate_left
        · simp only [Act.put, List.setIfInBounds_toArray, List.set_cons_zero, List.set_cons_succ]
          rfl
        refine pure_ (i := 11) (N := some 22) (v := ?_) (a' := ?_) #[true, true, true, true, true, true, true, true, true, true, true, true, false, false, false, false, false, false, false, false] rfl rfl (by kernel_rfl) (fun _ _ _ h => h) (Or.inl ⟨by rfl, ?_⟩) ?_ ?_
        rotate_left
        · intro w'
          go_simp
          with_reducible rfl
        rotate_left
        · simp only [Act.put, List.setIfInBounds_toArray, List.set_cons_zero, List.set_cons_succ]
          rfl
        refine pure_ (i := 12) (N := some 23) (v := ?_) (a' := ?_) #[true, true, true, true, true, true, true, true, true, true, true, true, true, false, false, false, false, false, false, false] rfl rfl (by kernel_rfl) (fun _ _ _ h => h) (Or.inl ⟨by rfl, ?_⟩) ?_ ?_
        rotate_left
        · intro w'
          go_simp
          with_reducible rfl
        rotate_left
        · simp only [Act.put, List.setIfInBounds_toArray, List.set_cons_zero, List.set_cons_succ]
          rfl
        refine pure_ (i := 13) (N := some 24) (v := ?_) (a' := ?_) #[true, true, true, true, true, true, true, true, true, true, true, true, true, true, false, false, false, false, false, false] rfl rfl (by kernel_rfl) (fun _ _ _ h => h) (Or.inl ⟨by rfl, ?_⟩) ?_ ?_
        rotate_left
        · intro w'
          go_simp
          with_reducible rfl
        rotate_left
        · simp only [Act.put, List.setIfInBounds_toArray, List.set_cons_zero, List.set_cons_succ]
          rfl
        refine pure_ (i := 15) (N := some 26) (v := ?_) (a' := ?_) #[true, true, true, true, true, true, true, true, true, true, true, true, true, true, false, true, false, false, false, false] rfl rfl (by kernel_rfl) (fun _ _ _ h => h) (Or.inl ⟨by rfl, ?_⟩) ?_ ?_
        rotate_left
        · intro w'
          go_simp
          with_reducible rfl
        rotate_left
        · simp only [Act.put, List.setIfInBounds_toArray, List.set_cons_zero, List.set_cons_succ]
          rfl
        refine take_ (i := 16) (N := some 27) (v := ?_) (a' := ?_) #[true, true, true, true, true, true, true, true, true, true, true, true, true, true, false, true, true, false, false, false] rfl rfl (by kernel_rfl) (fun _ _ _ h => h) (Or.inl ⟨by rfl, ?_⟩) hHeld ?_ ?_
        rotate_left
        · rintro w' ⟨h0, h1, h2⟩
          go_simp
          with_reducible rfl
        rotate_left
        · simp only [Act.put, List.setIfInBounds_toArray, List.set_cons_zero, List.set_cons_succ]
          rfl
        refine one_ (i := 14) (N := some 25) #[true, true, true, true, true, true, true, true, true, true, true, true, true, true, true, true, true, false, false, false] rfl rfl (by kernel_rfl) (by decide) (fun K hK => ?_)
        refine goes_ Tryz.func38 (by kernel_rfl) rfl #[.int .i64 (kb op : Int)] (by rfl) rfl rfl (by simp only [List.map_toArray, List.map_cons, List.map_nil]; rfl) ?_
        with_reducible refine (HB.out _).mono ?_
        rintro e w_ ⟨sh2, rd2, rfl, _, hb_⟩
        refine ⟨_, rfl, ?_⟩
        have HW_ := Lib.hid (below_step HW.out hb_)
        clear HW
        have HW := HW_
        clear HW_ hb_
        refine hK.out _ _ (HQ.out _ HW.out) (fun hHeld => ?_)
        clear hK K
        refine norm_ (a' := ?_) ?_ ?_
        rotate_left
        · show Act.put _ (some 25) _ = _
          simp only [Act.put, List.setIfInBounds_toArray, List.set_cons_zero, List.set_cons_succ]
          rfl
        refine one_ (i := 17) (N := some 28) #[true, true, true, true, true, true, true, true, true, true, true, true, true, true, true, true, true, true, false, false] rfl rfl (by kernel_rfl) (by decide) (fun K hK => ?_)
        refine goes_ Tryz.func39 (by kernel_rfl) rfl #[.agg #[.int .i64 (lo (kb op)), .int .i64 (hi (kb op)), sh2, rd2], .int .i64 b] (by rfl) rfl rfl (by simp only [List.map_toArray, List.map_cons, List.map_nil]; rfl) ?_
        with_reducible refine (HI2.out _ _ _).mono ?_
        rintro e w_ ⟨rfl, hb_⟩
        refine ⟨_, rfl, ?_⟩
        have HW_ := Lib.hid (below_step HW.out hb_)
        clear HW
        have HW := HW_
        clear HW_ hb_
        refine hK.out _ _ (HQ.out _ HW.out) (fun hHeld => ?_)
        clear hK K
        refine norm_ (a' := ?_) ?_ ?_
        rotate_left
        · show Act.put _ (some 28) _ = _
          simp only [Act.put, List.setIfInBounds_toArray, List.set_cons_zero, List.set_cons_succ]
          rfl
        refine pure_ (i := 18) (N := some 29) (v := ?_) (a' := ?_) #[true, true, true, true, true, true, true, true, true, true, true, true, true, true, true, true, true, true, true, false] rfl rfl (by kernel_rfl) (fun _ _ _ h => h) (Or.inl ⟨by rfl, ?_⟩) ?_ ?_
        rotate_left
        · intro w'
          go_simp
          with_reducible rfl
        rotate_left
        · simp only [Act.put, List.setIfInBounds_toArray, List.set_cons_zero, List.set_cons_succ]
          rfl
        refine pure_ (i := 19) (N := some 30) (v := ?_) (a' := ?_) #[true, true, true, true, true, true, true, true, true, true, true, true, true, true, true, true, true, true, true, true] rfl rfl (by kernel_rfl) (fun _ _ _ h => h) (Or.inl ⟨by rfl, ?_⟩) ?_ ?_
        rotate_left
        · intro w'
          go_simp
          with_reducible rfl
        rotate_left
        · simp only [Act.put, List.setIfInBounds_toArray, List.set_cons_zero, List.set_cons_succ]
          rfl
        refine done_ (by kernel_rfl) ?_

        go_wp2
        go_ret
        exact ⟨by rw [HO.out]; rfl, below_step HL.out HW.out⟩
      · have h2 : inB (kb op) b = false := by simpa using h2
        have HI2 : Hid (∀ sh rd w, Calls Tryz.prog 39 #[.agg #[.int .i64 (lo (kb op)), .int .i64 (hi (kb op)), sh, rd], .int .i64 b] w fun e w' => e = .returned (.bool false) ∧ Below w.heap.size w w') := Lib.hid (fun sh rd w => by rw [← h2]; exact in24_any _ _ _ sh rd w)
        have HO : Hid (okB op a b = false) := Lib.hid (by unfold okB; rw [hk, h1, h2]; simp)
        clear hk h1 h2
        go_enter Tryz.func8, Tryz.ntmps8
        have hw0 : Below w.heap.size w (w.alloc (.cells #[.int .i64 op, .int .i64 a, .int .i64 b] 23)) := below_alloc (Below.refl _ _) _
        have hx0 := World.alloc_heap_new w (.cells #[.int .i64 op, .int .i64 a, .int .i64 b] 23)
        have HW0 := Lib.hid hw0
        have HX0 := Lib.hid hx0
        clear hw0 hx0
        go_wp2_with (go_at_call 12; (with_reducible refine (HK.out _).mono ?_); rintro e w1 ⟨rfl, hb1⟩; have hx1 := (hb1.block _ (blk_lt HX0.out)).trans HX0.out; have HL := Lib.hid (below_step HW0.out hb1); have HX1 := Lib.hid hx1; clear hb1 hx1)
        have HQ : Hid (∀ W, Below w1.heap.size w1 W → W.cell? ⟨w.heap.size, 0, none⟩ = some (.int .i64 op) ∧ W.cell? ⟨w.heap.size, 1, none⟩ = some (.int .i64 a) ∧ W.cell? ⟨w.heap.size, 2, none⟩ = some (.int .i64 b)) := Lib.hid (fun W hW => by
          have h := (hW.block _ (blk_lt HX1.out)).trans HX1.out
          exact ⟨blk_cell h 0, blk_cell h 1, blk_cell h 2⟩)
        have HW : Hid (Below w1.heap.size w1 w1.drew) := Lib.hid (below_drew (Below.refl _ _))
        -- region 2: 20 operations: 0:fieldAddr 1:load 2:call 3:unOp 4:move 5:move 6:call 7:fieldAddr 8:load 9:call 10:unOp 11:pick 12:move 13:move 14:call 15:fieldAddr 16:load 17:call 18:unOp 19:pick
        refine start_ (S := fun W' => W'.cell? ⟨w.heap.size, 0, none⟩ = some (.int .i64 op) ∧ W'.cell? ⟨w.heap.size, 1, none⟩ = some (.int .i64 a) ∧ W'.cell? ⟨w.heap.size, 2, none⟩ = some (.int .i64 b)) (ds := []) #[false, false, false, false, false, false, false, false, false, false, false, false, false, false, false, false, false, false, false, false] (by kernel_rfl) rfl rfl (HQ.out _ HW.out) (fun hHeld => ?_)
        refine pure_ (i := 0) (N := some 11) (v := ?_) (a' := ?_) #[true, false, false, false, false, false, false, false, false, false, false, false, false, false, false, false, false, false, false, false] rfl rfl (by kernel_rfl) (fun _ _ _ h => h) (Or.inl ⟨by rfl, ?_⟩) ?_ ?_
        rotate_left
        · intro w'
          go_simp
          with_reducible rfl
        rotate_left
        · simp only [Act.put, List.setIfInBounds_toArray, List.set_cons_zero, List.set_cons_succ]
          rfl
        refine take_ (i := 1) (N := some 12) (v := ?_) (a' := ?_) #[true, true, false, false, false, false, false, false, false, false, false, false, false, false, false, false, false, false, false, false] rfl rfl (by kernel_rfl) (fun _ _ _ h => h) (Or.inl ⟨by rfl, ?_⟩) hHeld ?_ ?_
        rotate_left
        · rintro w' ⟨h0, h1, h2⟩
          go_simp
          with_reducible rfl
        rotate_left
        · simp only [Act.put, List.setIfInBounds_toArray, List.set_cons_zero, List.set_cons_succ]
          rfl
        refine one_ (i := 2) (N := some 13) #[true, true, true, false, false, false, false, false, false, false, false, false, false, false, false, false, false, false, false, false] rfl rfl (by kernel_rfl) (by decide) (fun K hK => ?_)
        refine goes_ Tryz.func37 (by kernel_rfl) rfl #[.int .i64 op] (by rfl) rfl rfl (by simp only [List.map_toArray, List.map_cons, List.map_nil]; rfl) ?_
        with_reducible refine (HN.out _).mono ?_
        rintro e w_ ⟨rfl, rfl⟩
        refine ⟨_, rfl, ?_⟩
        refine hK.out _ _ (HQ.out _ HW.out) (fun hHeld => ?_)
        clear hK K
        refine norm_ (a' := ?_) ?_ ?_
        rotate_left
        · show Act.put _ (some 13) _ = _
          simp only [Act.put, List.setIfInBounds_toArray, List.set_cons_zero, List.set_cons_succ]
          rfl
        refine pure_ (i := 3) (N := some 14) (v := ?_) (a' := ?_) #[true, true, true, true, false, false, false, false, false, false, false, false, false, false, false, false, false, false, false, false] rfl rfl (by kernel_rfl) (fun _ _ _ h => h) (Or.inl ⟨by rfl, ?_⟩) ?_ ?_
        rotate_left
        · intro w'
          go_simp
          with_reducible rfl
        rotate_left
        · simp only [Act.put, List.setIfInBounds_toArray, List.set_cons_zero, List.set_cons_succ]
          rfl
        refine pure_ (i := 4) (N := some 15) (v := ?_) (a' := ?_) #[true, true, true, true, true, false, false, false, false, false, false, false, false, false, false, false, false, false, false, false] rfl rfl (by kernel_rfl) (fun _ _ _ h => h) (Or.inl ⟨by rfl, ?_⟩) ?_ ?_
        rotate_left
        · intro w'
          go_simp
          with_reducible rfl
        rotate_left
        · simp only [Act.put, List.setIfInBounds_toArray, List.set_cons_zero, List.set_cons_succ]
          rfl
        refine pure_ (i := 5) (N := some 16) (v := ?_) (a' := ?_) #[true, true, true, true, true, true, false, false, false, false, false, false, false, false, false, false, false, false, false, false] rfl rfl (by kernel_rfl) (fun _ _ _ h => h) (Or.inl ⟨by rfl, ?_⟩) ?_ ?_
        rotate_left
        · intro w'
          go_simp
          with_reducible rfl
        rotate_left
        · simp only [Act.put, List.setIfInBounds_toArray, List.set_cons_zero, List.set_cons_succ]
          rfl
        refine pure_ (i := 7) (N := some 18) (v := ?_) (a' := ?_) #[true, true, true, true, true, true, false, true, false, false, false, false, false, false, false, false, false, false, false, false] rfl rfl (by kernel_rfl) (fun _ _ _ h => h) (Or.inl ⟨by rfl, ?_⟩) ?_ ?_
        rotate_left
        · intro w'
          go_simp
          with_reducible rfl
        rotate_left
        · simp only [Act.put, List.setIfInBounds_toArray, List.set_cons_zero, List.set_cons_succ]
          rfl
        refine take_ (i := 8) (N := some 19) (v := ?_) (a' := ?_) #[true, true, true, true, true, true, false, true, true, false, false, false, false, false, false, false, false, false, false, false] rfl rfl (by kernel_rfl) (fun _ _ _ h => h) (Or.inl ⟨by rfl, ?_⟩) hHeld ?_ ?_
        rotate_left
        · rintro w' ⟨h0, h1, h2⟩
          go_simp
          with_reducible rfl
        rotate_left
        · simp only [Act.put, List.setIfInBounds_toArray, List.set_cons_zero, List.set_cons_succ]
          rfl
        refine one_ (i := 6) (N := some 17) #[true, true, true, true, true, true, true, true, true, false, false, false, false, false, false, false, false, false, false, false] rfl rfl (by kernel_rfl) (by decide) (fun K hK => ?_)
        refine goes_ Tryz.func38 (by kernel_rfl) rfl #[.int .i64 (ka op : Int)] (by rfl) rfl rfl (by simp only [List.map_toArray, List.map_cons, List.map_nil]; rfl) ?_
        with_reducible refine (HA.out _).mono ?_
        rintro e w_ ⟨sh1, rd1, rfl, _, hb_⟩
        refine ⟨_, rfl, ?_⟩
        have HW_ := Lib.hid (below_step HW.out hb_)
        clear HW
        have HW := HW_
        clear HW_ hb_
        refine hK.out _ _ (HQ.out _ HW.out) (fun hHeld => ?_)
        clear hK K
        refine norm_ (a' := ?_) ?_ ?_
        rotate_left
        · show Act.put _ (some 17) _ = _
          simp only [Act.put, List.setIfInBounds_toArray, List.set_cons_zero, List.set_cons_succ]
          rfl
        refine one_ (i := 9) (N := some 20) #[true, true, true, true, true, true, true, true, true, true, false, false, false, false, false, false, false, false, false, false] rfl rfl (by kernel_rfl) (by decide) (fun K hK => ?_)
        refine goes_ Tryz.func39 (by kernel_rfl) rfl #[.agg #[.int .i64 (lo (ka op)), .int .i64 (hi (ka op)), sh1, rd1], .int .i64 a] (by rfl) rfl rfl (by simp only [List.map_toArray, List.map_cons, List.map_nil]; rfl) ?_
        with_reducible refine (HI1.out _ _ _).mono ?_
        rintro e w_ ⟨rfl, hb_⟩
        refine ⟨_, rfl, ?_⟩
        have HW_ := Lib.hid (below_step HW.out hb_)
        clear HW
        have HW := HW_
        clear HW_ hb_
        refine hK.out _ _ (HQ.out _ HW.out) (fun hHeld => ?_)
        clear hK K
        refine norm_ (a' := ?_) ?_ ?_
        rotate_left
        · show Act.put _ (some 20) _ = _
          simp only [Act.put, List.setIfInBounds_toArray, List.set_cons_zero, List.set_cons_succ]
          rfl
        refine pure_ (i := 10) (N := some 21) (v := ?_) (a' := ?_) #[true, true, true, true, true, true, true, true, true, true, true, false, false, false, false, false, false, false, false, false] rfl rfl (by kernel_rfl) (fun _ _ _ h => h) (Or.inl ⟨by rfl, ?_⟩) ?_ ?_
        rotate_left
        · intro w'
          go_simp
          with_reducible rfl
        rotate_left
        · simp only [Act.put, List.setIfInBounds_toArray, List.set_cons_zero, List.set_cons_succ]
          rfl
        refine pure_ (i := 11) (N := some 22) (v := ?_) (a' := ?_) #[true, true, true, true, true, true, true, true, true, true, true, true, false, false, false, false, false, false, false, false] rfl rfl (by kernel_rfl) (fun _ _ _ h => h) (Or.inl ⟨by rfl, ?_⟩) ?_ ?_
        rotate_left
        · intro w'
          go_simp
          with_reducible rfl
        rotate_left
        · simp only [Act.put, List.setIfInBounds_toArray, List.set_cons_zero, List.set_cons_succ]
          rfl
        refine pure_ (i := 12) (N := some 23) (v := ?_) (a' := ?_) #[true, true, true, true, true, true, true, true, true, true, true, true, true, false, false, false, false, false, false, false] rfl rfl (by kernel_rfl) (fun _ _ _ h => h) (Or.inl ⟨by rfl, ?_⟩) ?_ ?_
        rotate_left
        · intro w'
          go_simp
          with_reducible rfl
        rotate_left
        · simp only [Act.put, List.setIfInBounds_toArray, List.set_cons_zero, List.set_cons_succ]
          rfl
        refine pure_ (i := 13) (N := some 24) (v := ?_) (a' := ?_) #[true, true, true, true, true, true, true, true, true, true, true, true, true, true, false, false, false, false, false, false] rfl rfl (by kernel_rfl) (fun _ _ _ h => h) (Or.inl ⟨by rfl, ?_⟩) ?_ ?_
        rotate_left
        · intro w'
          go_simp
          with_reducible rfl
        rotate_left
        · simp only [Act.put, List.setIfInBounds_toArray, List.set_cons_zero, List.set_cons_succ]
          rfl
        refine pure_ (i := 15) (N := some 26) (v := ?_) (a' := ?_) #[true, true, true, true, true, true, true, true, true, true, true, true, true, true, false, true, false, false, false, false] rfl rfl (by kernel_rfl) (fun _ _ _ h => h) (Or.inl ⟨by rfl, ?_⟩) ?_ ?_
        rotate_left
        · intro w'
          go_simp
          with_reducible rfl
        rotate_left
        · simp only [Act.put, List.setIfInBounds_toArray, List.set_cons_zero, List.set_cons_succ]
          rfl
        refine take_ (i := 16) (N := some 27) (v := ?_) (a' := ?_) #[true, true, true, true, true, true, true, true, true, true, true, true, true, true, false, true, true, false, false, false] rfl rfl (by kernel_rfl) (fun _ _ _ h => h) (Or.inl ⟨by rfl, ?_⟩) hHeld ?_ ?_
        rotate_left
        · rintro w' ⟨h0, h1, h2⟩
          go_simp
          with_reducible rfl
        rotate_left
        · simp only [Act.put, List.setIfInBounds_toArray, List.set_cons_zero, List.set_cons_succ]
          rfl
        refine one_ (i := 14) (N := some 25) #[true, true, true, true, true, true, true, true, true, true, true, true, true, true, true, true, true, false, false, false] rfl rfl (by kernel_rfl) (by decide) (fun K hK => ?_)
        refine goes_ Tryz.func38 (by kernel_rfl) rfl #[.int .i64 (kb op : Int)] (by rfl) rfl rfl (by simp only [List.map_toArray, List.map_cons, List.map_nil]; rfl) ?_
        with_reducible refine (HB.out _).mono ?_
        rintro e w_ ⟨sh2, rd2, rfl, _, hb_⟩
        refine ⟨_, rfl, ?_⟩
        have HW_ := Lib.hid (below_step HW.out hb_)
        clear HW
        have HW := HW_
        clear HW_ hb_
        refine hK.out _ _ (HQ.out _ HW.out) (fun hHeld => ?_)
        clear hK K
        refine norm_ (a' := ?_) ?_ ?_
        rotate_left
        · show Act.put _ (some 25) _ = _
          simp only [Act.put, List.setIfInBounds_toArray, List.set_cons_zero, List.set_cons_succ]
          rfl
        refine one_ (i := 17) (N := some 28) #[true, true, true, true, true, true, true, true, true, true, true, true, true, true, true, true, true, true, false, false] rfl rfl (by kernel_rfl) (by decide) (fun K hK => ?_)
        refine goes_ Tryz.func39 (by kernel_rfl) rfl #[.agg #[.int .i64 (lo (kb op)), .int .i64 (hi (kb op)), sh2, rd2], .int .i64 b] (by rfl) rfl rfl (by simp only [List.map_toArray, List.map_cons, List.map_nil]; rfl) ?_
        with_reducible refine (HI2.out _ _ _).mono ?_
        rintro e w_ ⟨rfl, hb_⟩
        refine ⟨_, rfl, ?_⟩
        have HW_ := Lib.hid (below_step HW.out hb_)
        clear HW
        have HW := HW_
        clear HW_ hb_
        refine hK.out _ _ (HQ.out _ HW.out) (fun hHeld => ?_)
        clear hK K
        refine norm_ (a' := ?_) ?_ ?_
        rotate_left
        · show Act.put _ (some 28) _ = _
          simp only [Act.put, List.setIfInBounds_toArray, List.set_cons_zero, List.set_cons_succ]
          rfl
        refine pure_ (i := 18) (N := some 29) (v := ?_) (a' := ?_) #[true, true, true, true, true, true, true, true, true, true, true, true, true, true, true, true, true, true, true, false] rfl rfl (by kernel_rfl) (fun _ _ _ h => h) (Or.inl ⟨by rfl, ?_⟩) ?_ ?_
        rotate_left
        · intro w'
          go_simp
          with_reducible rfl
        rotate_left
        · simp only [Act.put, List.setIfInBounds_toArray, List.set_cons_zero, List.set_cons_succ]
          rfl
        refine pure_ (i := 19) (N := some 30) (v := ?_) (a' := ?_) #[true, true, true, true, true, true, true, true, true, true, true, true, true, true, true, true, true, true, true, true] rfl rfl (by kernel_rfl) (fun _ _ _ h => h) (Or.inl ⟨by rfl, ?_⟩) ?_ ?_
        rotate_left
        · intro w'
          go_simp
          with_reducible rfl
        rotate_left
        · simp only [Act.put, List.setIfInBounds_toArray, List.set_cons_zero, List.set_cons_succ]
          rfl
        refine done_ (by kernel_rfl) ?_

        go_wp2
        go_ret
        exact ⟨by rw [HO.out]; rfl, below_step HL.out HW.out⟩
    · have h1 : inB (ka op) a = false := by simpa using h1
      have HI1 : Hid (∀ sh rd w, Calls Tryz.prog 39 #[.agg #[.int .i64 (lo (ka op)), .int .i64 (hi (ka op)), sh, rd], .int .i64 a] w fun e w' => e = .returned (.bool false) ∧ Below w.heap.size w w') := Lib.hid (fun sh rd w => by rw [← h1]; exact in24_any _ _ _ sh rd w)
      have HO : Hid (okB op a b = false) := Lib.hid (by unfold okB; rw [hk, h1]; simp)
      clear hk h1
      go_enter Tryz.func8, Tryz.ntmps8
      have hw0 : Below w.heap.size w (w.alloc (.cells #[.int .i64 op, .int .i64 a, .int .i64 b] 23)) := below_alloc (Below.refl _ _) _
      have hx0 := World.alloc_heap_new w (.cells #[.int .i64 op, .int .i64 a, .int .i64 b] 23)
      have HW0 := Lib.hid hw0
      have HX0 := Lib.hid hx0
      clear hw0 hx0
      go_wp2_with (go_at_call 12; (with_reducible refine (HK.out _).mono ?_); rintro e w1 ⟨rfl, hb1⟩; have hx1 := (hb1.block _ (blk_lt HX0.out)).trans HX0.out; have HL := Lib.hid (below_step HW0.out hb1); have HX1 := Lib.hid hx1; clear hb1 hx1)
      have HQ : Hid (∀ W, Below w1.heap.size w1 W → W.cell? ⟨w.heap.size, 0, none⟩ = some (.int .i64 op) ∧ W.cell? ⟨w.heap.size, 1, none⟩ = some (.int .i64 a) ∧ W.cell? ⟨w.heap.size, 2, none⟩ = some (.int .i64 b)) := Lib.hid (fun W hW => by
        have h := (hW.block _ (blk_lt HX1.out)).trans HX1.out
        exact ⟨blk_cell h 0, blk_cell h 1, blk_cell h 2⟩)
      have HW : Hid (Below w1.heap.size w1 w1.drew) := Lib.hid (below_drew (Below.refl _ _))
      -- region 2: 20 operations: 0:fieldAddr 1:load 2:call 3:unOp 4:move 5:move 6:call 7:fieldAddr 8:load 9:call 10:unOp 11:pick 12:move 13:move 14:call 15:fieldAddr 16:load 17:call 18:unOp 19:pick
      refine start_ (S := fun W' => W'.cell? ⟨w.heap.size, 0, none⟩ = some (.int .i64 op) ∧ W'.cell? ⟨w.heap.size, 1, none⟩ = some (.int .i64 a) ∧ W'.cell? ⟨w.heap.size, 2, none⟩ = some (.int .i64 b)) (ds := []) #[false, false, false, false, false, false, false, false, false, false, false, false, false, false, false, false, false, false, false, false] (by kernel_rfl) rfl rfl (HQ.out _ HW.out) (fun hHeld => ?_)
      refine pure_ (i := 0) (N := some 11) (v := ?_) (a' := ?_) #[true, false, false, false, false, false, false, false, false, false, false, false, false, false, false, false, false, false, false, false] rfl rfl (by kernel_rfl) (fun _ _ _ h => h) (Or.inl ⟨by rfl, ?_⟩) ?_ ?_
      rotate_left
      · intro w'
        go_simp
        with_reducible rfl
      rotate_left
      · simp only [Act.put, List.setIfInBounds_toArray, List.set_cons_zero, List.set_cons_succ]
        rfl
      refine take_ (i := 1) (N := some 12) (v := ?_) (a' := ?_) #[true, true, false, false, false, false, false, false, false, false, false, false, false, false, false, false, false, false, false, false] rfl rfl (by kernel_rfl) (fun _ _ _ h => h) (Or.inl ⟨by rfl, ?_⟩) hHeld ?_ ?_
      rotate_left
      · rintro w' ⟨h0, h1, h2⟩
        go_simp
        with_reducible rfl
      rotate_left
      · simp only [Act.put, List.setIfInBounds_toArray, List.set_cons_zero, List.set_cons_succ]
        rfl
      refine one_ (i := 2) (N := some 13) #[true, true, true, false, false, false, false, false, false, false, false, false, false, false, false, false, false, false, false, false] rfl rfl (by kernel_rfl) (by decide) (fun K hK => ?_)
      refine goes_ Tryz.func37 (by kernel_rfl) rfl #[.int .i64 op] (by rfl) rfl rfl (by simp only [List.map_toArray, List.map_cons, List.map_nil]; rfl) ?_
      with_reducible refine (HN.out _).mono ?_
      rintro e w_ ⟨rfl, rfl⟩
      refine ⟨_, rfl, ?_⟩
      refine hK.out _ _ (HQ.out _ HW.out) (fun hHeld => ?_)
      clear hK K
      refine norm_ (a' := ?_) ?_ ?_
      rotate_left
      · show Act.put _ (some 13) _ = _
        simp only [Act.put, List.setIfInBounds_toArray, List.set_cons_zero, List.set_cons_succ]
        rfl
      refine pure_ (i := 3) (N := some 14) (v := ?_) (a' := ?_) #[true, true, true, true, false, false, false, false, false, false, false, false, false, false, false, false, false, false, false, false] rfl rfl (by kernel_rfl) (fun _ _ _ h => h) (Or.inl ⟨by rfl, ?_⟩) ?_ ?_
      rotate_left
      · intro w'
        go_simp
        with_reducible rfl
      rotate_left
      · simp only [Act.put, List.setIfInBounds_toArray, List.set_cons_zero, List.set_cons_succ]
        rfl
      refine pure_ (i := 4) (N := some 15) (v := ?_) (a' := ?_) #[true, true, true, true, true, false, false, false, false, false, false, false, false, false, false, false, false, false, false, false] rfl rfl (by kernel_rfl) (fun _ _ _ h => h) (Or.inl ⟨by rfl, ?_⟩) ?_ ?_
      rotate_left
      · intro w'
        go_simp
        with_reducible rfl
      rotate_left
      · simp only [Act.put, List.setIfInBounds_toArray, List.set_cons_zero, List.set_cons_succ]
        rfl
      refine pure_ (i := 5) (N := some 16) (v := ?_) (a' := ?_) #[true, true, true, true, true, true, false, false, false, false, false, false, false, false, false, false, false, false, false, false] rfl rfl (by kernel_rfl) (fun _ _ _ h => h) (Or.inl ⟨by rfl, ?_⟩) ?_ ?_
      rotate_left
      · intro w'
        go_simp
        with_reducible rfl
      rotate_left
      · simp only [Act.put, List.setIfInBounds_toArray, List.set_cons_zero, List.set_cons_succ]
        rfl
      refine pure_ (i := 7) (N := some 18) (v := ?_) (a' := ?_) #[true, true, true, true, true, true, false, true, false, false, false, false, false, false, false, false, false, false, false, false] rfl rfl (by kernel_rfl) (fun _ _ _ h => h) (Or.inl ⟨by rfl, ?_⟩) ?_ ?_
      rotate_left
      · intro w'
        go_simp
        with_reducible rfl
      rotate_left
      · simp only [Act.put, List.setIfInBounds_toArray, List.set_cons_zero, List.set_cons_succ]
        rfl
      refine take_ (i := 8) (N := some 19) (v := ?_) (a' := ?_) #[true, true, true, true, true, true, false, true, true, false, false, false, false, false, false, false, false, false, false, false] rfl rfl (by kernel_rfl) (fun _ _ _ h => h) (Or.inl ⟨by rfl, ?_⟩) hHeld ?_ ?_
      rotate_left
      · rintro w' ⟨h0, h1, h2⟩
        go_simp
        with_reducible rfl
      rotate_left
      · simp only [Act.put, List.setIfInBounds_toArray, List.set_cons_zero, List.set_cons_succ]
        rfl
      refine one_ (i := 6) (N := some 17) #[true, true, true, true, true, true, true, true, true, false, false, false, false, false, false, false, false, false, false, false] rfl rfl (by kernel_rfl) (by decide) (fun K hK => ?_)
      refine goes_ Tryz.func38 (by kernel_rfl) rfl #[.int .i64 (ka op : Int)] (by rfl) rfl rfl (by simp only [List.map_toArray, List.map_cons, List.map_nil]; rfl) ?_
      with_reducible refine (HA.out _).mono ?_
      rintro e w_ ⟨sh1, rd1, rfl, _, hb_⟩
      refine ⟨_, rfl, ?_⟩
      have HW_ := Lib.hid (below_step HW.out hb_)
      clear HW
      have HW := HW_
      clear HW_ hb_
      refine hK.out _ _ (HQ.out _ HW.out) (fun hHeld => ?_)
      clear hK K
      refine norm_ (a' := ?_) ?_ ?_
      rotate_left
      · show Act.put _ (some 17) _ = _
        simp only [Act.put, List.setIfInBounds_toArray, List.set_cons_zero, List.set_cons_succ]
        rfl
      refine one_ (i := 9) (N := some 20) #[true, true, true, true, true, true, true, true, true, true, false, false, false, false, false, false, false, false, false, false] rfl rfl (by kernel_rfl) (by decide) (fun K hK => ?_)
      refine goes_ Tryz.func39 (by kernel_rfl) rfl #[.agg #[.int .i64 (lo (ka op)), .int .i64 (hi (ka op)), sh1, rd1], .int .i64 a] (by rfl) rfl rfl (by simp only [List.map_toArray, List.map_cons, List.map_nil]; rfl) ?_
      with_reducible refine (HI1.out _ _ _).mono ?_
      rintro e w_ ⟨rfl, hb_⟩
      refine ⟨_, rfl, ?_⟩
      have HW_ := Lib.hid (below_step HW.out hb_)
      clear HW
      have HW := HW_
      clear HW_ hb_
      refine hK.out _ _ (HQ.out _ HW.out) (fun hHeld => ?_)
      clear hK K
      refine norm_ (a' := ?_) ?_ ?_
      rotate_left
      · show Act.put _ (some 20) _ = _
        simp only [Act.put, List.setIfInBounds_toArray, List.set_cons_zero, List.set_cons_succ]
        rfl
      refine pure_ (i := 10) (N := some 21) (v := ?_) (a' := ?_) #[true, true, true, true, true, true, true, true, true, true, true, false, false, false, false, false, false, false, false, false] rfl rfl (by kernel_rfl) (fun _ _ _ h => h) (Or.inl ⟨by rfl, ?_⟩) ?_ ?_
      rotate_left
      · intro w'
        go_simp
        with_reducible rfl
      rotate_left
      · simp only [Act.put, List.setIfInBounds_toArray, List.set_cons_zero, List.set_cons_succ]
        rfl
      refine pure_ (i := 11) (N := some 22) (v := ?_) (a' := ?_) #[true, true, true, true, true, true, true, true, true, true, true, true, false, false, false, false, false, false, false, false] rfl rfl (by kernel_rfl) (fun _ _ _ h => h) (Or.inl ⟨by rfl, ?_⟩) ?_ ?_
      rotate_left
      · intro w'
        go_simp
        with_reducible rfl
      rotate_left
      · simp only [Act.put, List.setIfInBounds_toArray, List.set_cons_zero, List.set_cons_succ]
        rfl
      refine pure_ (i := 12) (N := some 23) (v := ?_) (a' := ?_) #[true, true, true, true, true, true, true, true, true, true, true, true, true, false, false, false, false, false, false, false] rfl rfl (by kernel_rfl) (fun _ _ _ h => h) (Or.inl ⟨by rfl, ?_⟩) ?_ ?_
      rotate_left
      · intro w'
        go_simp
        with_reducible rfl
      rotate_left
      · simp only [Act.put, List.setIfInBounds_toArray, List.set_cons_zero, List.set_cons_succ]
        rfl
      refine pure_ (i := 13) (N := some 24) (v := undef) (a' := ?_) #[true, true, true, true, true, true, true, true, true, true, true, true, true, true, false, false, false, false, false, false] rfl rfl (by kernel_rfl) (fun _ _ _ h => h) (Or.inr ⟨by rfl, rfl⟩) ?_ ?_
      rotate_left
      · simp only [Act.put, List.setIfInBounds_toArray, List.set_cons_zero, List.set_cons_succ]
        rfl
      refine pure_ (i := 14) (N := some 25) (v := undef) (a' := ?_) #[true, true, true, true, true, true, true, true, true, true, true, true, true, true, true, false, false, false, false, false] rfl rfl (by kernel_rfl) (fun _ _ _ h => h) (Or.inr ⟨by rfl, rfl⟩) ?_ ?_
      rotate_left
      · simp only [Act.put, List.setIfInBounds_toArray, List.set_cons_zero, List.set_cons_succ]
        rfl
      refine pure_ (i := 15) (N := some 26) (v := undef) (a' := ?_) #[true, true, true, true, true, true, true, true, true, true, true, true, true, true, true, true, false, false, false, false] rfl rfl (by kernel_rfl) (fun _ _ _ h => h) (Or.inr ⟨by rfl, rfl⟩) ?_ ?_
      rotate_left
      · simp only [Act.put, List.setIfInBounds_toArray, List.set_cons_zero, List.set_cons_succ]
        rfl
      refine pure_ (i := 16) (N := some 27) (v := undef) (a' := ?_) #[true, true, true, true, true, true, true, true, true, true, true, true, true, true, true, true, true, false, false, false] rfl rfl (by kernel_rfl) (fun _ _ _ h => h) (Or.inr ⟨by rfl, rfl⟩) ?_ ?_
      rotate_left
      · simp only [Act.put, List.setIfInBounds_toArray, List.set_cons_zero, List.set_cons_succ]
        rfl
      refine pure_ (i := 17) (N := some 28) (v := undef) (a' := ?_) #[true, true, true, true, true, true, true, true, true, true, true, true, true, true, true, true, true, true, false, false] rfl rfl (by kernel_rfl) (fun _ _ _ h => h) (Or.inr ⟨by rfl, rfl⟩) ?_ ?_
      rotate_left
      · simp only [Act.put, List.setIfInBounds_toArray, List.set_cons_zero, List.set_cons_succ]
        rfl
      refine pure_ (i := 18) (N := some 29) (v := undef) (a' := ?_) #[true, true, true, true, true, true, true, true, true, true, true, true, true, true, true, true, true, true, true, false] rfl rfl (by kernel_rfl) (fun _ _ _ h => h) (Or.inr ⟨by rfl, rfl⟩) ?_ ?_
      rotate_left
      · simp only [Act.put, List.setIfInBounds_toArray, List.set_cons_zero, List.set_cons_succ]
        rfl
      refine pure_ (i := 19) (N := some 30) (v := ?_) (a' := ?_) #[true, true, true, true, true, true, true, true, true, true, true, true, true, true, true, true, true, true, true, true] rfl rfl (by kernel_rfl) (fun _ _ _ h => h) (Or.inl ⟨by rfl, ?_⟩) ?_ ?_
      rotate_left
      · intro w'
        go_simp
        with_reducible rfl
      rotate_left
      · simp only [Act.put, List.setIfInBounds_toArray, List.set_cons_zero, List.set_cons_succ]
        rfl
      refine done_ (by kernel_rfl) ?_

      go_wp2
      go_ret
      exact ⟨by rw [HO.out]; rfl, below_step HL.out HW.out⟩
  · have hk : knownB op = false := by simpa using hk
    have HN : Hid (∀ w, Calls Tryz.prog 37 #[.int .i64 op] w fun e w' => e = .returned (.bool false) ∧ w = w') := Lib.hid (fun w => by rw [← hk]; exact known22_any op w)
    have HO : Hid (okB op a b = false) := Lib.hid (by unfold okB; rw [hk]; simp)
    clear hk
    go_enter Tryz.func8, Tryz.ntmps8
    have hw0 : Below w.heap.size w (w.alloc (.cells #[.int .i64 op, .int .i64 a, .int .i64 b] 23)) := below_alloc (Below.refl _ _) _
    have hx0 := World.alloc_heap_new w (.cells #[.int .i64 op, .int .i64 a, .int .i64 b] 23)
    have HW0 := Lib.hid hw0
    have HX0 := Lib.hid hx0
    clear hw0 hx0
    go_wp2_with (go_at_call 12; (with_reducible refine (HK.out _).mono ?_); rintro e w1 ⟨rfl, hb1⟩; have hx1 := (hb1.block _ (blk_lt HX0.out)).trans HX0.out; have HL := Lib.hid (below_step HW0.out hb1); have HX1 := Lib.hid hx1; clear hb1 hx1)
    have HQ : Hid (∀ W, Below w1.heap.size w1 W → W.cell? ⟨w.heap.size, 0, none⟩ = some (.int .i64 op) ∧ W.cell? ⟨w.heap.size, 1, none⟩ = some (.int .i64 a) ∧ W.cell? ⟨w.heap.size, 2, none⟩ = some (.int .i64 b)) := Lib.hid (fun W hW => by
      have h := (hW.block _ (blk_lt HX1.out)).trans HX1.out
      exact ⟨blk_cell h 0, blk_cell h 1, blk_cell h 2⟩)
    have HW : Hid (Below w1.heap.size w1 w1.drew) := Lib.hid (below_drew (Below.refl _ _))
    -- region 2: 20 operations: 0:fieldAddr 1:load 2:call 3:unOp 4:move 5:move 6:call 7:fieldAddr 8:load 9:call 10:unOp 11:pick 12:move 13:move 14:call 15:fieldAddr 16:load 17:call 18:unOp 19:pick
    refine start_ (S := fun W' => W'.cell? ⟨w.heap.size, 0, none⟩ = some (.int .i64 op) ∧ W'.cell? ⟨w.heap.size, 1, none⟩ = some (.int .i64 a) ∧ W'.cell? ⟨w.heap.size, 2, none⟩ = some (.int .i64 b)) (ds := []) #[false, false, false, false, false, false, false, false, false, false, false, false, false, false, false, false, false, false, false, false] (by kernel_rfl) rfl rfl (HQ.out _ HW.out) (fun hHeld => ?_)
    refine pure_ (i := 0) (N := some 11) (v := ?_) (a' := ?_) #[true, false, false, false, false, false, false, false, false, false, false, false, false, false, false, false, false, false, false, false] rfl rfl (by kernel_rfl) (fun _ _ _ h => h) (Or.inl ⟨by rfl, ?_⟩) ?_ ?_
    rotate_left
    · intro w'
      go_simp
      with_reducible rfl
    rotate_left
    · simp only [Act.put, List.setIfInBounds_toArray, List.set_cons_zero, List.set_cons_succ]
      rfl
    refine take_ (i := 1) (N := some 12) (v := ?_) (a' := ?_) #[true, true, false, false, false, false, false, false, false, false, false, false, false, false, false, false, false, false, false, false] rfl rfl (by kernel_rfl) (fun _ _ _ h => h) (Or.inl ⟨by rfl, ?_⟩) hHeld ?_ ?_
    rotate_left
    · rintro w' ⟨h0, h1, h2⟩
      go_simp
      with_reducible rfl
    rotate_left
    · simp only [Act.put, List.setIfInBounds_toArray, List.set_cons_zero, List.set_cons_succ]
      rfl
    refine one_ (i := 2) (N := some 13) #[true, true, true, false, false, false, false, false, false, false, false, false, false, false, false, false, false, false, false, false] rfl rfl (by kernel_rfl) (by decide) (fun K hK => ?_)
    refine goes_ Tryz.func37 (by kernel_rfl) rfl #[.int .i64 op] (by rfl) rfl rfl (by simp only [List.map_toArray, List.map_cons, List.map_nil]; rfl) ?_
    with_reducible refine (HN.out _).mono ?_
    rintro e w_ ⟨rfl, rfl⟩
    refine ⟨_, rfl, ?_⟩
    refine hK.out _ _ (HQ.out _ HW.out) (fun hHeld => ?_)
    clear hK K
    refine norm_ (a' := ?_) ?_ ?_
    rotate_left
    · show Act.put _ (some 13) _ = _
      simp only [Act.put, List.setIfInBounds_toArray, List.set_cons_zero, List.set_cons_succ]
      rfl
    refine pure_ (i := 3) (N := some 14) (v := ?_) (a' := ?_) #[true, true, true, true, false, false, false, false, false, false, false, false, false, false, false, false, false, false, false, false] rfl rfl (by kernel_rfl) (fun _ _ _ h => h) (Or.inl ⟨by rfl, ?_⟩) ?_ ?_
    rotate_left
    · intro w'
      go_simp
      with_reducible rfl
    rotate_left
    · simp only [Act.put, List.setIfInBounds_toArray, List.set_cons_zero, List.set_cons_succ]
      rfl
    refine pure_ (i := 4) (N := some 15) (v := ?_) (a' := ?_) #[true, true, true, true, true, false, false, false, false, false, false, false, false, false, false, false, false, false, false, false] rfl rfl (by kernel_rfl) (fun _ _ _ h => h) (Or.inl ⟨by rfl, ?_⟩) ?_ ?_
    rotate_left
    · intro w'
      go_simp
      with_reducible rfl
    rotate_left
    · simp only [Act.put, List.setIfInBounds_toArray, List.set_cons_zero, List.set_cons_succ]
      rfl
    refine pure_ (i := 5) (N := some 16) (v := undef) (a' := ?_) #[true, true, true, true, true, true, false, false, false, false, false, false, false, false, false, false, false, false, false, false] rfl rfl (by kernel_rfl) (fun _ _ _ h => h) (Or.inr ⟨by rfl, rfl⟩) ?_ ?_
    rotate_left
    · simp only [Act.put, List.setIfInBounds_toArray, List.set_cons_zero, List.set_cons_succ]
      rfl
    refine pure_ (i := 6) (N := some 17) (v := undef) (a' := ?_) #[true, true, true, true, true, true, true, false, false, false, false, false, false, false, false, false, false, false, false, false] rfl rfl (by kernel_rfl) (fun _ _ _ h => h) (Or.inr ⟨by rfl, rfl⟩) ?_ ?_
    rotate_left
    · simp only [Act.put, List.setIfInBounds_toArray, List.set_cons_zero, List.set_cons_succ]
      rfl
    refine pure_ (i := 7) (N := some 18) (v := undef) (a' := ?_) #[true, true, true, true, true, true, true, true, false, false, false, false, false, false, false, false, false, false, false, false] rfl rfl (by kernel_rfl) (fun _ _ _ h => h) (Or.inr ⟨by rfl, rfl⟩) ?_ ?_
    rotate_left
    · simp only [Act.put, List.setIfInBounds_toArray, List.set_cons_zero, List.set_cons_succ]
      rfl
    refine pure_ (i := 8) (N := some 19) (v := undef) (a' := ?_) #[true, true, true, true, true, true, true, true, true, false, false, false, false, false, false, false, false, false, false, false] rfl rfl (by kernel_rfl) (fun _ _ _ h => h) (Or.inr ⟨by rfl, rfl⟩) ?_ ?_
    rotate_left
    · simp only [Act.put, List.setIfInBounds_toArray, List.set_cons_zero, List.set_cons_succ]
      rfl
    refine pure_ (i := 9) (N := some 20) (v := undef) (a' := ?_) #[true, true, true, true, true, true, true, true, true, true, false, false, false, false, false, false, false, false, false, false] rfl rfl (by kernel_rfl) (fun _ _ _ h => h) (Or.inr ⟨by rfl, rfl⟩) ?_ ?_
    rotate_left
    · simp only [Act.put, List.setIfInBounds_toArray, List.set_cons_zero, List.set_cons_succ]
      rfl
    refine pure_ (i := 10) (N := some 21) (v := undef) (a' := ?_) #[true, true, true, true, true, true, true, true, true, true, true, false, false, false, false, false, false, false, false, false] rfl rfl (by kernel_rfl) (fun _ _ _ h => h) (Or.inr ⟨by rfl, rfl⟩) ?_ ?_
    rotate_left
    · simp only [Act.put, List.setIfInBounds_toArray, List.set_cons_zero, List.set_cons_succ]
      rfl
    refine pure_ (i := 11) (N := some 22) (v := ?_) (a' := ?_) #[true, true, true, true, true, true, true, true, true, true, true, true, false, false, false, false, false, false, false, false] rfl rfl (by kernel_rfl) (fun _ _ _ h => h) (Or.inl ⟨by rfl, ?_⟩) ?_ ?_
    rotate_left
    · intro w'
      go_simp
      with_reducible rfl
    rotate_left
    · simp only [Act.put, List.setIfInBounds_toArray, List.set_cons_zero, List.set_cons_succ]
      rfl
    refine pure_ (i := 12) (N := some 23) (v := ?_) (a' := ?_) #[true, true, true, true, true, true, true, true, true, true, true, true, true, false, false, false, false, false, false, false] rfl rfl (by kernel_rfl) (fun _ _ _ h => h) (Or.inl ⟨by rfl, ?_⟩) ?_ ?_
    rotate_left
    · intro w'
      go_simp
      with_reducible rfl
    rotate_left
    · simp only [Act.put, List.setIfInBounds_toArray, List.set_cons_zero, List.set_cons_succ]
      rfl
    refine pure_ (i := 13) (N := some 24) (v := undef) (a' := ?_) #[true, true, true, true, true, true, true, true, true, true, true, true, true, true, false, false, false, false, false, false] rfl rfl (by kernel_rfl) (fun _ _ _ h => h) (Or.inr ⟨by rfl, rfl⟩) ?_ ?_
    rotate_left
    · simp only [Act.put, List.setIfInBounds_toArray, List.set_cons_zero, List.set_cons_succ]
      rfl
    refine pure_ (i := 14) (N := some 25) (v := undef) (a' := ?_) #[true, true, true, true, true, true, true, true, true, true, true, true, true, true, true, false, false, false, false, false] rfl rfl (by kernel_rfl) (fun _ _ _ h => h) (Or.inr ⟨by rfl, rfl⟩) ?_ ?_
    rotate_left
    · simp only [Act.put, List.setIfInBounds_toArray, List.set_cons_zero, List.set_cons_succ]
      rfl
    refine pure_ (i := 15) (N := some 26) (v := undef) (a' := ?_) #[true, true, true, true, true, true, true, true, true, true, true, true, true, true, true, true, false, false, false, false] rfl rfl (by kernel_rfl) (fun _ _ _ h => h) (Or.inr ⟨by rfl, rfl⟩) ?_ ?_
    rotate_left
    · simp only [Act.put, List.setIfInBounds_toArray, List.set_cons_zero, List.set_cons_succ]
      rfl
    refine pure_ (i := 16) (N := some 27) (v := undef) (a' := ?_) #[true, true, true, true, true, true, true, true, true, true, true, true, true, true, true, true, true, false, false, false] rfl rfl (by kernel_rfl) (fun _ _ _ h => h) (Or.inr ⟨by rfl, rfl⟩) ?_ ?_
    rotate_left
    · simp only [Act.put, List.setIfInBounds_toArray, List.set_cons_zero, List.set_cons_succ]
      rfl
    refine pure_ (i := 17) (N := some 28) (v := undef) (a' := ?_) #[true, true, true, true, true, true, true, true, true, true, true, true, true, true, true, true, true, true, false, false] rfl rfl (by kernel_rfl) (fun _ _ _ h => h) (Or.inr ⟨by rfl, rfl⟩) ?_ ?_
    rotate_left
    · simp only [Act.put, List.setIfInBounds_toArray, List.set_cons_zero, List.set_cons_succ]
      rfl
    refine pure_ (i := 18) (N := some 29) (v := undef) (a' := ?_) #[true, true, true, true, true, true, true, true, true, true, true, true, true, true, true, true, true, true, true, false] rfl rfl (by kernel_rfl) (fun _ _ _ h => h) (Or.inr ⟨by rfl, rfl⟩) ?_ ?_
    rotate_left
    · simp only [Act.put, List.setIfInBounds_toArray, List.set_cons_zero, List.set_cons_succ]
      rfl
    refine pure_ (i := 19) (N := some 30) (v := ?_) (a' := ?_) #[true, true, true, true, true, true, true, true, true, true, true, true, true, true, true, true, true, true, true, true] rfl rfl (by kernel_rfl) (fun _ _ _ h => h) (Or.inl ⟨by rfl, ?_⟩) ?_ ?_
    rotate_left
    · intro w'
      go_simp
      with_reducible rfl
    rotate_left
    · simp only [Act.put, List.setIfInBounds_toArray, List.set_cons_zero, List.set_cons_succ]
      rfl
    refine done_ (by kernel_rfl) ?_

    go_wp2
    go_ret
    exact ⟨by rw [HO.out]; rfl, below_step HL.out HW.out⟩
end Go.Proofs.YtamagdnlicnefaaGreatDoor
