/- The iterator over what may be wrong with a cell. -/
import Derived.Test.YtnomjjhocblkkaaHd
import Derived.Test.YtnomjjhocblkkaaRa
import Derived.RangeFuncNested
import Derived.RangeFuncBound
import Derived.RangeFuncCalls
import Derived.RangeFuncLeaves
import Derived.RangeFuncBox
import Derived.Shelf.Abstract
import Derived.Shelf.RegionOpen
import Derived.OwnWalkIn
import Derived.TacticsInMore
import Derived.LoopNIn
import Derived.LoopIn
import Derived.Laws.EntriesVeiled
namespace Go.Proofs.Ytnomjjhocblkkaa
open Go.RowKit Go.Shelf Go.Proofs.YtnomjjhocblkkaaW.PrintWords Go.Proofs.YtnomjjhocblkkaaW.PrintLast Go.Proofs.YtnomjjhocblkkaaW.PrintMore
attribute [local go_sem] Oper.semAt_some

/-- A trouble's code, and its test. -/
def trCode : Nat → Int
  | 0 => 1
  | 1 => 3
  | _ => 5
def trFn (bh br bi bt : Nat) : Nat → Value
  | 0 => .func (.func 63) #[] #[.pointer (some ⟨br, 0, none⟩)]
  | 1 => .func (.func 64) #[] #[.pointer (some ⟨bi, 0, none⟩), .pointer (some ⟨bh, 0, none⟩), .pointer (some ⟨br, 0, none⟩)]
  | _ => .func (.func 65) #[] #[.pointer (some ⟨bh, 0, none⟩), .pointer (some ⟨br, 0, none⟩), .pointer (some ⟨bi, 0, none⟩), .pointer (some ⟨bt, 0, none⟩)]

/-- What the rounds must keep: two blocks. -/
def KpB (a b : Nat) (W W' : World) : Prop := W'.heap[a]? = W.heap[a]? ∧ W'.heap[b]? = W.heap[b]?

theorem World.alloc_heap_old' (W : World) (o : Obj) {i : Nat} (h : i < W.heap.size) : (W.alloc o).heap[i]? = W.heap[i]? := (below_alloc (Below.refl _ W) o).block i h
theorem grown_alloc_none (W : World) (o : Obj) : W.grownBy (W.alloc o) none := World.grownBy_alloc W o none

set_option maxRecDepth 100000 in
set_option maxHeartbeats 1000000 in
theorem tr_in (m : Nat) (l ba bs bh br bi bt : Nat) (J Jx : List Nat → World → Prop) (hJ : ∀ s W W', J s W → W.grownBy W' none → J s W')
    (hY : ∀ pre x W, J pre W → (x = pre.length ∧ x < 3) → YieldAt Fence.wide (m - 1) Try.prog l #[.agg #[.int .i64 (trCode x), trFn bh br bi bt x]] W fun e W' =>
      (e = .returned (.bool true) ∧ J (pre ++ [x]) W' ∧ KpB ba bs W W') ∨ (e = .returned (.bool false) ∧ Jx (pre ++ [x]) W'))
    (W : World) (h1 : W.heap[ba]? = some (.cells #[.slice (some ⟨bs, 0, none⟩) 3 3] 106 (0, 0))) (h2 : W.heap[bs]? = some (.cells #[.int .i64 1, trFn bh br bi bt 0, .int .i64 3, trFn bh br bi bt 1, .int .i64 5, trFn bh br bi bt 2] 101 (0, 0))) (h0 : J [] W) :
    CallsIn Fence.wide m Try.prog 66 #[.func (.yield l) #[] #[], .pointer (some ⟨ba, 0, none⟩)] W fun e W' => (∃ v, e = .returned v) ∧
      ((∃ ys, ys = [0, 1, 2] ∧ J ys W') ∨ (∃ pre, True ∧ Jx pre W')) := by
  have hc1 := blk_cell h1 0
  simp only [List.getElem?_toArray, List.getElem?_cons_zero] at hc1
  refine callsIn_of_wp Try.func66 rfl trivial ?_ rfl
  simp only [Try.ntmps66, List.size_toArray, List.length_cons, List.length_nil, Nat.reduceAdd, Nat.reduceSub, Array.replicate_succ, Array.replicate_zero, List.push_toArray, List.append_toArray, List.nil_append, List.cons_append]
  gi_wp2
  gi_loopw [7] (fun p wr => ∃ (k : Nat), k ≤ 3 ∧ p = .int .i64 k ∧ J (List.range k) wr ∧ wr.heap[ba]? = some (.cells #[.slice (some ⟨bs, 0, none⟩) 3 3] 106 (0, 0)) ∧ wr.heap[bs]? = some (.cells #[.int .i64 1, trFn bh br bi bt 0, .int .i64 3, trFn bh br bi bt 1, .int .i64 5, trFn bh br bi bt 2] 101 (0, 0)))
    (fun p _ => (3 - intOf p).toNat)
  case atStart => exact ⟨0, by omega, rfl, h0, h1, h2⟩
  case round =>
    clear hc1 h0 h1 h2
    obtain ⟨k, hk, rfl, hJk, h1, h2⟩ := hrel
    have hcs := fun i => blk_cell h2 i
    have d0 := hcs 0
    have d1 := hcs 1
    have d2 := hcs 2
    have d3 := hcs 3
    have d4 := hcs 4
    have d5 := hcs 5
    simp only [List.getElem?_toArray, List.getElem?_cons_zero, List.getElem?_cons_succ] at d0 d1 d2 d3 d4 d5
    clear hcs
    have hk' : k = 0 ∨ k = 1 ∨ k = 2 ∨ k = 3 := by omega
    rcases hk' with rfl | rfl | rfl | rfl
    · simp only [trFn] at d0 d1 d2 d3 d4 d5
      obtain ⟨fn, tmps, assign, body, hy, hR⟩ := hY (List.range 0) 0 (wr.alloc (.cells #[.int .i64 1, trFn bh br bi bt 0] 101)) (hJ _ _ _ hJk (grown_alloc_none _ _)) (by decide)
      have e1 := World.alloc_heap_old' wr (.cells #[.int .i64 1, trFn bh br bi bt 0] 101) (blk_lt h1)
      have e2 := World.alloc_heap_old' wr (.cells #[.int .i64 1, trFn bh br bi bt 0] 101) (blk_lt h2)
      have h3 := e1.trans h1
      have h4 := e2.trans h2
      have H3 := Lib.hid h3
      have H4 := Lib.hid h4
      clear e1 e2 h1 h2 h3 h4 hJk
      simp only [trFn, trCode] at hy hR
      gi_wp2
      refine ⟨nofun, hR.mono ?_⟩
      rintro e W3 (⟨rfl, hJ3, hk3⟩ | ⟨rfl, hJx3⟩)
      · have H5 := Lib.hid (hk3.1.trans H3.out)
        have H6 := Lib.hid (hk3.2.trans H4.out)
        clear hk3 d0 d1 d2 d3 d4 d5
        gi_wp2
        go_roundw
        case rel => exact ⟨1, by omega, rfl, hJ3, H5.out, H6.out⟩
        case measure => simp [intOf]
      · gi_wp2
        refine bodyPost_ret (results_none rfl _ _ _) rfl ?_
        exact ⟨⟨_, rfl⟩, .inr ⟨_, trivial, hJx3⟩⟩
    · simp only [trFn] at d0 d1 d2 d3 d4 d5
      obtain ⟨fn, tmps, assign, body, hy, hR⟩ := hY (List.range 1) 1 (wr.alloc (.cells #[.int .i64 3, trFn bh br bi bt 1] 101)) (hJ _ _ _ hJk (grown_alloc_none _ _)) (by decide)
      have e1 := World.alloc_heap_old' wr (.cells #[.int .i64 3, trFn bh br bi bt 1] 101) (blk_lt h1)
      have e2 := World.alloc_heap_old' wr (.cells #[.int .i64 3, trFn bh br bi bt 1] 101) (blk_lt h2)
      have h3 := e1.trans h1
      have h4 := e2.trans h2
      have H3 := Lib.hid h3
      have H4 := Lib.hid h4
      clear e1 e2 h1 h2 h3 h4 hJk
      simp only [trFn, trCode] at hy hR
      gi_wp2
      refine ⟨nofun, hR.mono ?_⟩
      rintro e W3 (⟨rfl, hJ3, hk3⟩ | ⟨rfl, hJx3⟩)
      · have H5 := Lib.hid (hk3.1.trans H3.out)
        have H6 := Lib.hid (hk3.2.trans H4.out)
        clear hk3 d0 d1 d2 d3 d4 d5
        gi_wp2
        go_roundw
        case rel => exact ⟨2, by omega, rfl, hJ3, H5.out, H6.out⟩
        case measure => simp [intOf]
      · gi_wp2
        refine bodyPost_ret (results_none rfl _ _ _) rfl ?_
        exact ⟨⟨_, rfl⟩, .inr ⟨_, trivial, hJx3⟩⟩
    · simp only [trFn] at d0 d1 d2 d3 d4 d5
      obtain ⟨fn, tmps, assign, body, hy, hR⟩ := hY (List.range 2) 2 (wr.alloc (.cells #[.int .i64 5, trFn bh br bi bt 2] 101)) (hJ _ _ _ hJk (grown_alloc_none _ _)) (by decide)
      have e1 := World.alloc_heap_old' wr (.cells #[.int .i64 5, trFn bh br bi bt 2] 101) (blk_lt h1)
      have e2 := World.alloc_heap_old' wr (.cells #[.int .i64 5, trFn bh br bi bt 2] 101) (blk_lt h2)
      have h3 := e1.trans h1
      have h4 := e2.trans h2
      have H3 := Lib.hid h3
      have H4 := Lib.hid h4
      clear e1 e2 h1 h2 h3 h4 hJk
      simp only [trFn, trCode] at hy hR
      gi_wp2
      refine ⟨nofun, hR.mono ?_⟩
      rintro e W3 (⟨rfl, hJ3, hk3⟩ | ⟨rfl, hJx3⟩)
      · have H5 := Lib.hid (hk3.1.trans H3.out)
        have H6 := Lib.hid (hk3.2.trans H4.out)
        clear hk3 d0 d1 d2 d3 d4 d5
        gi_wp2
        go_roundw
        case rel => exact ⟨3, by omega, rfl, hJ3, H5.out, H6.out⟩
        case measure => simp [intOf]
      · gi_wp2
        refine bodyPost_ret (results_none rfl _ _ _) rfl ?_
        exact ⟨⟨_, rfl⟩, .inr ⟨_, trivial, hJx3⟩⟩
    · gi_wp2
      go_end0
      exact ⟨⟨_, rfl⟩, .inl ⟨_, rfl, hJk⟩⟩
end Go.Proofs.Ytnomjjhocblkkaa
