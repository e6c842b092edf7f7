/- Maps whose keys are pairs of numbers and whose values are pairs of numbers; equality of such structs. -/
import Derived.Test.YtnomjjhocblkkaaProg
import Derived.Test.YtnomjjhocblkkaaWMore
import Derived.Test.YtnomjjhocblkkaaWEqStruct
import Derived.WalkKit
import Derived.Lib.Hide
namespace Go.Proofs.Ytnomjjhocblkkaa
open Go.RowKit Go.Proofs.YtnomjjhocblkkaaW.PrintWords Go.Proofs.YtnomjjhocblkkaaW.PrintLast Go.Proofs.YtnomjjhocblkkaaW.PrintMore

theorem eqA78 (d : Nat) (w : World) (x0 y0 : Int) (x1 y1 : Int) :
    (Op.equalIn (d + 2) 78 (.agg #[.int .i64 x0, .int .i64 x1]) (.agg #[.int .i64 y0, .int .i64 y1])).run Try.prog w = .ok (x0 == y0 && (x1 == y1)) w := by
  refine eqA_of Try.underlying78 (by kernel_rfl) ?_
  refine eqf_cons (by rfl) (by go_simp; rfl) (by go_simp; rfl) (by go_simp) ?_
  exact eqf_last (by rfl) (by go_simp; rfl) (by go_simp; rfl) (by go_simp)
theorem eqA41 (d : Nat) (w : World) (x0 y0 : Int) (x1 y1 : Int) :
    (Op.equalIn (d + 2) 41 (.agg #[.int .i64 x0, .int .i64 x1]) (.agg #[.int .i64 y0, .int .i64 y1])).run Try.prog w = .ok (x0 == y0 && (x1 == y1)) w := by
  refine eqA_of Try.underlying41 (by kernel_rfl) ?_
  refine eqf_cons (by rfl) (by go_simp; rfl) (by go_simp; rfl) (by go_simp) ?_
  exact eqf_last (by rfl) (by go_simp; rfl) (by go_simp; rfl) (by go_simp)
theorem eqA32 (d : Nat) (w : World) (x0 y0 : Int) (x1 y1 : Int) :
    (Op.equalIn (d + 2) 32 (.agg #[.int .i64 x0, .int .i64 x1]) (.agg #[.int .i64 y0, .int .i64 y1])).run Try.prog w = .ok (x0 == y0 && (x1 == y1)) w := by
  refine eqA_of Try.underlying32 (by kernel_rfl) ?_
  refine eqf_cons (by rfl) (by go_simp; rfl) (by go_simp; rfl) (by go_simp) ?_
  exact eqf_last (by rfl) (by go_simp; rfl) (by go_simp; rfl) (by go_simp)
/-- A pair of numbers, as a struct's cells. -/
def two (p : Int × Int) : Value := .agg #[.int .i64 p.1, .int .i64 p.2]

/-- The map's entries are those of the list. -/
def Ents (es : Array MapEntry) (cs : List ((Int × Int) × (Int × Int))) : Prop := es.toList.map (fun e => (e.key, e.val)) = cs.map fun p => (two p.1, two p.2)

/-- Where a key stands, and its value. -/
def findC (k : Int × Int) : List ((Int × Int) × (Int × Int)) → Nat → Option (Nat × (Int × Int))
  | [], _ => none
  | p :: cs, i => if p.1 = k then some (i, p.2) else findC k cs (i + 1)
def lookC (cs : List ((Int × Int) × (Int × Int))) (k : Int × Int) : Option (Int × Int) := (findC k cs 0).map (·.2)
def putC (cs : List ((Int × Int) × (Int × Int))) (k v : Int × Int) : List ((Int × Int) × (Int × Int)) :=
  match findC k cs 0 with
  | some (i, _) => cs.modify i fun _ => (k, v)
  | none => cs ++ [(k, v)]

section
variable {T : TypeId}
/-- '==' of keys of type T is '==' of the pairs. -/
def EqAs (T : TypeId) : Prop := ∀ (w : World) (a b c d : Int), (Op.equal T (.agg #[.int .i64 a, .int .i64 b]) (.agg #[.int .i64 c, .int .i64 d])).run Try.prog w = .ok (a == c && (b == d)) w

theorem run_findAsking_two (h : EqAs T) (k : Int × Int) (w : World) : ∀ (es : List MapEntry) (cs : List ((Int × Int) × (Int × Int))) (i : Nat), es.map (fun e => (e.key, e.val)) = cs.map (fun p => (two p.1, two p.2)) →
    (Instr.findAsking T (two k) es i).run Try.prog w = .ok ((findC k cs i).map fun r => (r.1, two r.2)) w
  | [], [], i, _ => by simp [Instr.findAsking, findC]
  | [], _ :: _, _, h => by simp at h
  | _ :: _, [], _, h => by simp at h
  | e :: es, p :: cs, i, he => by
    simp only [List.map_cons, List.cons.injEq, Prod.mk.injEq] at he
    obtain ⟨⟨h1, h2⟩, h3⟩ := he
    obtain ⟨⟨a, b⟩, ⟨c, d⟩⟩ := p
    obtain ⟨x, y⟩ := k
    unfold Instr.findAsking
    rw [h1]
    have he := h w x y a b
    simp only [two] at he ⊢
    simp only [Sem.run_bind, he, Result.andThen_ok]
    by_cases hk : x = a ∧ y = b
    · obtain ⟨rfl, rfl⟩ := hk
      simp [findC, h2, two]
    · have : ((x == a) && (y == b)) = false := by
        rw [Bool.eq_false_iff]
        intro hc
        simp at hc
        exact hk hc
      rw [this]
      have h4 : ¬ ((a, b) = (x, y)) := by
        intro e
        simp only [Prod.mk.injEq] at e
        exact hk ⟨e.1.symm, e.2.symm⟩
      simp only [Bool.false_eq_true, if_false, findC, if_neg h4]
      exact run_findAsking_two h (x, y) w es cs (i + 1) h3

theorem run_findKey_two (h : EqAs T) {fs : Array Field} (hu : Try.prog.underlying T = some (.struct fs)) (k : Int × Int) (w : World) (es : Array MapEntry) (cs : List ((Int × Int) × (Int × Int))) (he : Ents es cs) :
    (Instr.findKey T (two k) es.toList).run Try.prog w = .ok ((findC k cs 0).map fun r => (r.1, two r.2)) w := by
  unfold Instr.findKey
  simp only [Sem.run_bind, run_underlying hu, Result.andThen_ok]
  have h2 := run_findAsking_two h k w es.toList cs 0 he
  cases hl : es.toList with
  | nil =>
    rw [hl] at h2
    unfold Ents at he
    rw [hl] at he
    cases cs with
    | nil => simp [Instr.findNow, findC]
    | cons => simp at he
  | cons e l =>
    rw [hl] at h2
    have : Instr.findNow (.struct fs) (two k) (e :: l) 0 = none := by
      unfold Instr.findNow Instr.sameNow
      simp
    rw [this]
    exact h2

theorem findC_some (k : Int × Int) : ∀ (cs : List ((Int × Int) × (Int × Int))) (i j : Nat) (u : Int × Int), findC k cs i = some (j, u) → i ≤ j ∧ cs[j - i]? = some (k, u)
  | [], _, _, _, h => by simp [findC] at h
  | p :: cs, i, j, u, h => by
    unfold findC at h
    split at h
    · rename_i hp
      simp only [Option.some.injEq, Prod.mk.injEq] at h
      obtain ⟨rfl, rfl⟩ := h
      refine ⟨Nat.le_refl _, ?_⟩
      obtain ⟨p1, p2⟩ := p
      simp only at hp
      simp [hp]
    · obtain ⟨h1, h2⟩ := findC_some k cs (i + 1) j u h
      refine ⟨by omega, ?_⟩
      rw [show j - i = (j - (i + 1)) + 1 by omega, List.getElem?_cons_succ]
      exact h2

theorem same_two (k : Int × Int) : Instr.sameBits 10000 (two k) (two k) = true := by
  show Instr.sameBits (9999 + 1) (two k) (two k) = true
  unfold two Instr.sameBits
  simp
  show Instr.sameBits (9998 + 1) _ _ = true ∧ Instr.sameBits (9998 + 1) _ _ = true
  simp [Instr.sameBits]

/-- What a key type must bear. -/
structure KeyT (T : TypeId) : Prop where
  eq : EqAs T
  st : ∃ fs, Try.prog.underlying T = some (.struct fs)
  ok : ∀ (b : Bool) (k : Int × Int) (w : World), (Instr.checkKey b 10000 T (two k)).run Try.prog w = .ok () w

theorem run_lookup_two {M : TypeId} (K : KeyT T) (hM : Try.prog.underlying M = some (.map T 32)) (m : Nat) (k : Int × Int) (w : World) (es : Array MapEntry) (clock : Nat) (cs : List ((Int × Int) × (Int × Int)))
    (hb : w.heap[m]? = some (.map es clock)) (he : Ents es cs) (hz : ∀ w : World, (zeroValue 32).run Try.prog w = .ok (two (0, 0)) w) :
    (Instr.lookup M (.map (some m)) (two k) true).run Try.prog w = .ok (.tuple #[two ((lookC cs k).getD (0, 0)), .bool (lookC cs k).isSome]) w := by
  obtain ⟨fs, hu⟩ := K.st
  have hf := run_findKey_two K.eq hu k w es cs he
  unfold Instr.lookup
  simp only [Sem.run_bind, run_underlying hM, Result.andThen_ok, getObj, Sem.run, hb, K.ok]
  unfold lookC
  cases hc : findC k cs 0 with
  | none => simp [hf, hc, hz]
  | some r => simp [hf, hc]

theorem run_mapUpdate_two {M : TypeId} (K : KeyT T) (hM : Try.prog.underlying M = some (.map T 32)) (m : Nat) (k v : Int × Int) (w : World) (es : Array MapEntry) (clock : Nat) (cs : List ((Int × Int) × (Int × Int)))
    (hb : w.heap[m]? = some (.map es clock)) (he : Ents es cs) :
    ∃ es' clock', (Instr.mapUpdate M (.map (some m)) (two k) (two v)).run Try.prog w = .ok () { w with heap := w.heap.setIfInBounds m (.map es' clock') } ∧ Ents es' (putC cs k v) := by
  obtain ⟨fs, hu⟩ := K.st
  have hf := run_findKey_two K.eq hu k w es cs he
  unfold Instr.mapUpdate
  simp only [Sem.run_bind, run_underlying hM, Result.andThen_ok, getObj, Sem.run, hb, K.ok]
  unfold putC
  cases hc : findC k cs 0 with
  | none =>
    refine ⟨es.push { key := two k, val := two v, born := clock }, clock + 1, by simp [hf, hc, setObj, Sem.run, hb], ?_⟩
    unfold Ents at he ⊢
    simp [he]
  | some r =>
    obtain ⟨i, u⟩ := r
    obtain ⟨_, hi⟩ := findC_some k cs 0 i u hc
    rw [Nat.sub_zero] at hi
    have hk : ((es[i]?).map (·.key)).getD (two k) = two k := by
      have := congrArg (fun l => l[i]?) he
      simp only [List.getElem?_map, hi, Option.map_some, Array.getElem?_toList] at this
      cases he : es[i]? with
      | none => rfl
      | some e => rw [he] at this; simp at this; simp [this.1]
    refine ⟨es.modify i fun e => { e with key := two k, val := two v }, clock, by simp [hf, hc, Instr.keyThatStays, hk, same_two, setObj, Sem.run, hb], ?_⟩
    unfold Ents at he ⊢
    apply List.ext_getElem?
    intro j
    have hj := congrArg (fun l => l[j]?) he
    simp only [List.getElem?_map, Array.getElem?_toList, Array.getElem?_modify, List.getElem?_modify] at hj ⊢
    by_cases hij : i = j
    · subst hij
      rw [hi] at hj ⊢
      cases h2 : es[i]? with
      | none => rw [h2] at hj; simp at hj
      | some e => simp
    · simp [hij, hj]

end
theorem key78 : KeyT 78 := ⟨fun w a b c d => eqA78 9998 w a c b d, ⟨_, Try.underlying78⟩, fun b k w => by cases b <;> kernel_rfl⟩
theorem key41 : KeyT 41 := ⟨fun w a b c d => eqA41 9998 w a c b d, ⟨_, Try.underlying41⟩, fun b k w => by cases b <;> kernel_rfl⟩
theorem zero32 (w : World) : (zeroValue 32).run Try.prog w = .ok (two (0, 0)) w := by kernel_rfl
end Go.Proofs.Ytnomjjhocblkkaa
