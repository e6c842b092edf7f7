/- The shapes and the calls that came in; 'great' of them. -/
import Derived.Test.YtnomjjhocblkkaaJf
import Derived.Deep.Matrix
import Derived.SizedLaws
import Derived.OpenShut
namespace Go.Proofs.Ytnomjjhocblkkaa
open Go.RowKit Go.Shelf Go.Proofs.YtnomjjhocblkkaaW.PrintWords Go.Proofs.YtnomjjhocblkkaaW.PrintLast Go.Proofs.YtnomjjhocblkkaaW.PrintMore
open Go.Proofs.Ytnomjjhocblkkaa.PHeapSound Go.Deep Go.ChangeShapes

theorem cells3 : Try.prog.cellsOf 3 = 1 := by kernel_rfl
theorem cells2 : Try.prog.cellsOf 2 = 1 := by kernel_rfl
theorem cells32 : Try.prog.cellsOf 32 = 2 := by kernel_rfl
theorem cells34 : Try.prog.cellsOf 34 = 7 := by kernel_rfl
theorem cells39 : Try.prog.cellsOf 39 = 1 := by kernel_rfl

def inI64 (x : Int) : Prop := -9223372036854775808 ≤ x ∧ x ≤ 9223372036854775807
structure VFits (v : S32) : Prop where
  f0 : inI64 v.f0
  f1 : inI64 v.f1
structure OpFits (o : S34) : Prop where
  f0 : inI64 o.f0
  f1 : inI64 o.f1
  f2 : inI64 o.f2
  f3 : VFits o.f3
  f4 : VFits o.f4

section
variable {H : Type} {enc : TypeId × Value → H} {W : World}

set_option maxRecDepth 100000 in
theorem came_val {fuel : Nat} {cs : List Value} {x : DataW H × List MemPlace} (h : DataW.trod enc Try.prog W 0 (fun _ => true) true fuel 32 cs = some x) :
    ∃ a b : Int, cs = [.int .i64 a, .int .i64 b] ∧ VFits ⟨a, b⟩ := by
  obtain ⟨xs, n, _, hx, hlen, hxl, hf⟩ := DataW.trod_struct Try.underlying32 h
  rw [cells32] at hlen
  match cs, hlen with
  | [c0, c1], _ =>
    match xs, hxl with
    | [y0, y1], _ =>
      have g0 : DataW.trod enc Try.prog W 0 (fun _ => true) true n 3 (([c0, c1].drop 0).take (Try.prog.cellsOf 3)) = some y0 := hf 0 _ rfl
      have g1 : DataW.trod enc Try.prog W 0 (fun _ => true) true n 2 (([c0, c1].drop 1).take (Try.prog.cellsOf 2)) = some y1 := hf 1 _ rfl
      rw [cells3] at g0
      rw [cells2] at g1
      simp only [List.drop_zero, List.drop_succ_cons, List.take_succ_cons, List.take_zero] at g0 g1
      obtain ⟨n0, e0, _, w0⟩ := DataW.trod_int Try.underlying3 g0
      obtain ⟨n1, e1, _, w1⟩ := DataW.trod_int Try.underlying2 g1
      cases e0; cases e1
      exact ⟨n0, n1, rfl, Go.bounds_i64 w0, Go.bounds_i64 w1⟩

set_option maxRecDepth 100000 in
theorem came_op {fuel : Nat} {cs : List Value} {x : DataW H × List MemPlace} (h : DataW.trod enc Try.prog W 0 (fun _ => true) true fuel 34 cs = some x) :
    ∃ o : S34, cs.length = 7 ∧ k34.K W o cs ∧ OpFits o := by
  obtain ⟨xs, n, _, hx, hlen, hxl, hf⟩ := DataW.trod_struct Try.underlying34 h
  rw [cells34] at hlen
  match cs, hlen with
  | [c0, c1, c2, c3, c4, c5, c6], _ =>
    match xs, hxl with
    | [y0, y1, y2, y3, y4], _ =>
      have g0 : DataW.trod enc Try.prog W 0 (fun _ => true) true n 3 (([c0, c1, c2, c3, c4, c5, c6].drop 0).take (Try.prog.cellsOf 3)) = some y0 := hf 0 _ rfl
      have g1 : DataW.trod enc Try.prog W 0 (fun _ => true) true n 3 (([c0, c1, c2, c3, c4, c5, c6].drop 1).take (Try.prog.cellsOf 3)) = some y1 := hf 1 _ rfl
      have g2 : DataW.trod enc Try.prog W 0 (fun _ => true) true n 3 (([c0, c1, c2, c3, c4, c5, c6].drop 2).take (Try.prog.cellsOf 3)) = some y2 := hf 2 _ rfl
      have g3 : DataW.trod enc Try.prog W 0 (fun _ => true) true n 32 (([c0, c1, c2, c3, c4, c5, c6].drop 3).take (Try.prog.cellsOf 32)) = some y3 := hf 3 _ rfl
      have g4 : DataW.trod enc Try.prog W 0 (fun _ => true) true n 32 (([c0, c1, c2, c3, c4, c5, c6].drop 5).take (Try.prog.cellsOf 32)) = some y4 := hf 4 _ rfl
      rw [cells3] at g0 g1 g2
      rw [cells32] at g3 g4
      simp only [List.drop_zero, List.drop_succ_cons, List.take_succ_cons, List.take_zero] at g0 g1 g2 g3 g4
      obtain ⟨n0, e0, _, w0⟩ := DataW.trod_int Try.underlying3 g0
      obtain ⟨n1, e1, _, w1⟩ := DataW.trod_int Try.underlying3 g1
      obtain ⟨n2, e2, _, w2⟩ := DataW.trod_int Try.underlying3 g2
      obtain ⟨a3, b3, e3, f3⟩ := came_val g3
      obtain ⟨a4, b4, e4, f4⟩ := came_val g4
      cases e0; cases e1; cases e2; cases e3; cases e4
      exact ⟨⟨n0, n1, n2, ⟨a3, b3⟩, ⟨a4, b4⟩⟩, rfl, k34_mk W ⟨n0, n1, n2, ⟨a3, b3⟩, ⟨a4, b4⟩⟩, ⟨Go.bounds_i64 w0, Go.bounds_i64 w1, Go.bounds_i64 w2, f3, f4⟩⟩

theorem came_ops {fuel : Nat} {v : Value} {x : DataW H × List MemPlace} (h : DataW.trod enc Try.prog W 0 (fun _ => true) true fuel 23 [v] = some x) :
    ∃ A c ops, v = .slice A (ops : List S34).length c ∧ ops.length ≤ c ∧ c ≤ 9223372036854775807 ∧ Kd.C k34 W A ops.length ops ∧ ∀ o ∈ ops, OpFits o := by
  rcases open_slice Try.underlying23 h with ⟨hcs, _⟩ | ⟨a, len, cap, m, n, D, Pl, hcs, hb, hl, hm, hmm, hx, hi⟩
  · cases hcs
    exact ⟨none, 0, [], rfl, Nat.le_refl _, by omega, ⟨rfl, by simp, fun h => absurd h (by simp)⟩, by simp⟩
  · cases hcs
    simp only [if_true] at hmm
    have hO : ∀ i, ∃ o : S34, i < len → (∃ cs', cs'.length = 7 ∧ k34.K W o cs' ∧ ∀ j, j < 7 → W.cell? ((a.add (i * 7)).add j) = cs'[j]?) ∧ OpFits o := by
      intro i
      by_cases hil : i < len
      · obtain ⟨cs', hc, ht⟩ := hi i (by omega)
        rw [cells34] at hc
        obtain ⟨_, hcl, hat⟩ := World.cells?_some hc
        obtain ⟨o, h1, h2, h3⟩ := came_op ht
        exact ⟨o, fun _ => ⟨⟨cs', h1, h2, hat⟩, h3⟩⟩
      · exact ⟨z34, fun h => absurd h hil⟩
    obtain ⟨O, hO⟩ := Classical.skolem.mp hO
    refine ⟨some a, cap, (List.range len).map O, by simp, by simpa using hl, by unfold maxLen at hm; omega, ⟨rfl, by simp; unfold maxLen at hm; omega, fun _ => ⟨a, rfl, fun j p hj => ?_⟩⟩, fun o ho => ?_⟩
    · simp only [List.getElem?_map] at hj
      by_cases hjl : j < len
      · rw [List.getElem?_range hjl] at hj
        cases hj
        obtain ⟨⟨cs', h1, h2, h3⟩, _⟩ := hO j hjl
        refine ⟨cs', h1, h2, fun i u hu => ?_⟩
        have hi6 : i < 7 := by
          rcases Nat.lt_or_ge i 7 with h | h
          · exact h
          · rw [List.getElem?_eq_none (by omega)] at hu; cases hu
        have := h3 i hi6
        rw [Go.Deep.add_add] at this
        exact this.trans hu
      · rw [List.getElem?_eq_none (by simp; omega)] at hj
        cases hj
    · obtain ⟨i, hir, rfl⟩ := List.mem_map.1 ho
      exact (hO i (List.mem_range.1 hir)).2

theorem came_shapes {fuel : Nat} {v : Value} {x : DataW H × List MemPlace} (h : DataW.trod enc Try.prog W 0 (fun _ => true) true fuel 22 [v] = some x) :
    ∃ A c sh, v = .slice A (sh : List (List Int)).length c ∧ sh.length ≤ c ∧ c ≤ 9223372036854775807 ∧ Kd.C (Kd.slice 3 (Kd.int .i64)) W A sh.length sh ∧ ∀ s ∈ sh, ∀ x ∈ s, inI64 x := by
  rcases open_int_rows Try.underlying22 Try.underlying39 Try.underlying3 cells39 cells3 h with ⟨hcs, _⟩ | ⟨a, len, cap, A, L, C, Z, hcs, _, hl, hm, _, hr⟩
  · cases hcs
    exact ⟨none, 0, [], rfl, Nat.le_refl _, by omega, ⟨rfl, by simp, fun h => absurd h (by simp)⟩, by simp⟩
  · cases hcs
    unfold maxLen at hm
    refine ⟨some a, cap, (List.range len).map fun r => (Z r).take (L r), by simp, by simpa using hl, by omega, ⟨by simp, by simp; omega, fun _ => ⟨a, rfl, fun j p hj => ?_⟩⟩, fun s hs x hx => ?_⟩
    · simp only [List.getElem?_map] at hj
      by_cases hjl : j < len
      · rw [List.getElem?_range hjl] at hj
        cases hj
        obtain ⟨g1, g2, g3, g4, g5, g6, g7⟩ := hr j (by omega)
        unfold maxLen at g3
        have e : ((Z j).take (L j)).length = L j := by rw [List.length_take]; omega
        refine ⟨[.slice (A j) (L j) (C j)], rfl, ⟨A j, C j, by rw [e], by rw [e]; exact g2, ?_⟩, fun i u hu => ?_⟩
        · refine Kd.C_of_reads (enc := Value.int .i64) (d := (0 : Int)) (h1 := fun _ => rfl) ⟨rfl, by show ((Z j).take (L j)).length ≤ _; omega, fun hn => ?_⟩
          replace hn : 0 < ((Z j).take (L j)).length := hn
          rw [e] at hn
          cases hA : A j with
          | none => exact absurd (g6 hA) (by omega)
          | some a' =>
            refine ⟨a', rfl, fun i hi => ?_⟩
            rw [e] at hi
            rw [(g7 a' hA).2 i (by omega), List.getD_eq_getElem?_getD, List.getD_eq_getElem?_getD, List.getElem?_take_of_lt hi]
        · match i, hu with
          | 0, hu =>
            cases hu
            show W.cell? (a.add (j * 1 + 0)) = _
            rw [Nat.mul_one, Nat.add_zero]; simpa using g1
      · rw [List.getElem?_eq_none (by simp; omega)] at hj
        cases hj
    · obtain ⟨j, hjr, rfl⟩ := List.mem_map.1 hs
      have hj := List.mem_range.1 hjr
      exact Go.bounds_i64 ((hr j (by omega)).2.2.2.2.1 x (List.mem_of_mem_take hx))
end

/-- Are shapes, and calls, more than the statements go through? -/
def tooGreat (sh : List (List Int)) (l : List S34) : Bool := sh.any (fun s => decide (20 < s.length)) || decide (70 < sh.length) || decide (150 < l.length)

theorem great_l0 (sh : List (List Int)) (l : List S34) (hl : sh.length ≤ 9223372036854775807) : ∀ (m i : Nat), i + m = sh.length →
    backstaylaw15_great.l0 (m + 1) sh l sh.length i = some ((sh.drop i).any (fun s => decide (20 < s.length)) || decide (70 < sh.length) || decide (150 < l.length))
  | 0, i, hi => by
    rw [backstaylaw15_great.l0, if_neg (by omega)]
    have : sh.drop i = [] := List.drop_of_length_le (by omega)
    rw [this]
    by_cases h : 70 < sh.length
    · rw [if_pos (by omega)]; simp [h]
    · rw [if_neg (by omega)]
      simp [h]; omega
  | m + 1, i, hi => by
    have hil : i < sh.length := by omega
    rw [backstaylaw15_great.l0, if_pos (by omega), if_pos (by omega), if_pos (by omega)]
    have e1 : wrap64 ((i : Int) + 1) = ((i + 1 : Nat) : Int) := by unfold wrap64; omega
    have e2 : rd_L1 sh i = sh[i] := by
      unfold rd_L1
      rw [Int.toNat_natCast, List.getD_eq_getElem?_getD, List.getElem?_eq_getElem hil]
      rfl
    rw [e1, e2, List.drop_eq_getElem_cons hil, List.any_cons, great_l0 sh l hl m (i + 1) (by omega)]
    by_cases h : 20 < sh[i].length
    · rw [if_pos (by omega)]; simp [h]
    · rw [if_neg (by omega)]; simp [h]

theorem great_any (A : Option Addr) (c : Nat) (sh : List (List Int)) (A1 : Option Addr) (c1 : Nat) (l : List S34) (w : World) (hC : Kd.C (Kd.slice 3 (Kd.int .i64)) w A sh.length sh) (hc : sh.length ≤ c) (hcm : c ≤ 9223372036854775807)
    (hC1 : Kd.C k34 w A1 l.length l) (hc1 : l.length ≤ c1) :
    Calls Try.prog 10 #[.slice A sh.length c, .slice A1 l.length c1] w fun e w' => e = .returned (.bool (tooGreat sh l)) ∧ Drawn0 w w' := by
  have h := great_l0 sh l (by omega) sh.length 0 (by omega)
  rw [List.drop_zero] at h
  exact backstaylaw15_great.calls (sh.length + 1) A c sh A1 c1 l _ w hC hc hC1 hc1 h

theorem drawn_below {w w' : World} (h : Drawn0 w w') : Below w.heap.size w w' := by
  obtain ⟨n, rfl⟩ := h
  exact pw_below_drewN (Below.refl _ _) n
end Go.Proofs.Ytnomjjhocblkkaa
