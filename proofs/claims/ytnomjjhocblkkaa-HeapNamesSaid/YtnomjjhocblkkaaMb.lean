/- HeapKeeps' plain law: what was set last, cell by cell. -/
import Derived.Test.YtnomjjhocblkkaaMa
import Derived.Test.YtnomjjhocblkkaaKb
namespace Go.Proofs.Ytnomjjhocblkkaa
open Go.RowKit Go.Shelf Go.Proofs.YtnomjjhocblkkaaW.PrintWords Go.Proofs.YtnomjjhocblkkaaW.PrintLast Go.Proofs.YtnomjjhocblkkaaW.PrintMore
open Go.Proofs.Ytnomjjhocblkkaa.PHeapSound

/-- There is such a cell. -/
def isCell (H : HM) (n i : Int) : Prop := 1 ≤ n ∧ n ≤ H.objs.length ∧ 0 ≤ i ∧ i < (rowOf H n).length
instance (H : HM) (n i : Int) : Decidable (isCell H n i) := by unfold isCell; infer_instance

/-- What was set is a cell's, and of its type. -/
def CsOk (H : HM) : Prop := ∀ n i v, lookC H.cs (n, i) = some v → isCell H n i ∧ v.1 = rd (rowOf H n) i

/-- The map has just the heap's cells. -/
structure Had (D : Pairs) (H : HM) : Prop where
  look : ∀ n i, lookC D (n, i) = if isCell H n i then some (getC H n i) else none
  once : Once D
  len : (D.length : Int) = H.used
/-- It has these, and j cells of one more. -/
structure HadMid (D : Pairs) (H : HM) (row : List Int) (j : Nat) : Prop where
  look : ∀ n i, lookC D (n, i) = if isCell H n i then some (getC H n i) else if n = H.objs.length + 1 ∧ 0 ≤ i ∧ i < j then some (rd row i, 0) else none
  once : Once D
  len : (D.length : Int) = H.used + j

theorem had_new (sh : List (List Int)) (q : Int) : Had [] ⟨sh, q, 0, [], []⟩ ∧ CsOk ⟨sh, q, 0, [], []⟩ := by
  refine ⟨⟨fun n i => ?_, by simp [Once], rfl⟩, fun n i v h => by simp [lookC_nil] at h⟩
  rw [lookC_nil, if_neg]
  rintro ⟨h1, h2, _⟩
  simp at h2
  omega

theorem rd_app_lt {xs : List Int} {n : Int} {k : Int} (h1 : 1 ≤ k) (h2 : k ≤ xs.length) : rd (xs ++ [n]) (k - 1) = rd xs (k - 1) := by
  unfold rd
  rw [List.getD_eq_getElem?_getD, List.getD_eq_getElem?_getD, List.getElem?_append_left (by omega)]
theorem rd_app_eq {xs : List Int} {n : Int} : rd (xs ++ [n]) ((xs.length : Int) + 1 - 1) = n := by
  unfold rd
  rw [List.getD_eq_getElem?_getD, show ((xs.length : Int) + 1 - 1).toNat = xs.length by omega]
  simp

section
variable {H : HM} {n : Int} (hm : makeC H n = 0)
include hm
theorem make_eq : makeH H n = { H with used := H.used + (rd_L1 H.sh n).length, objs := H.objs ++ [n] } := by unfold makeH; rw [if_pos hm]
theorem make_row_lt {k : Int} (h1 : 1 ≤ k) (h2 : k ≤ H.objs.length) : rowOf (makeH H n) k = rowOf H k := by
  rw [make_eq hm]
  unfold rowOf
  simp only
  rw [rd_app_lt h1 h2]
theorem make_row_eq : rowOf (makeH H n) ((H.objs.length : Int) + 1) = rd_L1 H.sh n := by
  rw [make_eq hm]
  unfold rowOf
  simp only
  rw [rd_app_eq]
theorem make_len : ((makeH H n).objs.length : Int) = H.objs.length + 1 := by rw [make_eq hm]; simp
theorem make_isCell (k i : Int) : isCell (makeH H n) k i ↔ isCell H k i ∨ (k = H.objs.length + 1 ∧ 0 ≤ i ∧ i < (rd_L1 H.sh n).length) := by
  unfold isCell
  rw [make_len hm]
  constructor
  · rintro ⟨h1, h2, h3, h4⟩
    by_cases hk : k = H.objs.length + 1
    · subst hk
      rw [make_row_eq hm] at h4
      exact .inr ⟨rfl, h3, h4⟩
    · rw [make_row_lt hm h1 (by omega)] at h4
      exact .inl ⟨h1, by omega, h3, h4⟩
  · rintro (⟨h1, h2, h3, h4⟩ | ⟨rfl, h3, h4⟩)
    · exact ⟨h1, by omega, h3, by rw [make_row_lt hm h1 h2]; exact h4⟩
    · exact ⟨by omega, by omega, h3, by rw [make_row_eq hm]; exact h4⟩
theorem make_getC {k i : Int} (h1 : 1 ≤ k) (h2 : k ≤ H.objs.length) : getC (makeH H n) k i = getC H k i := by
  unfold getC
  rw [make_cs, make_row_lt hm h1 h2]
omit hm in
theorem csok_none (hc : CsOk H) (i : Int) : lookC H.cs ((H.objs.length : Int) + 1, i) = none := by
  cases h : lookC H.cs ((H.objs.length : Int) + 1, i) with
  | none => rfl
  | some v => exact absurd (hc _ _ _ h).1.2.1 (by omega)
theorem make_getN (hc : CsOk H) (i : Int) : getC (makeH H n) ((H.objs.length : Int) + 1) i = (rd (rd_L1 H.sh n) i, 0) := by
  unfold getC
  rw [make_cs, csok_none hc, make_row_eq hm]; rfl
theorem make_csok (hc : CsOk H) : CsOk (makeH H n) := by
  intro k i v h
  rw [make_cs] at h
  obtain ⟨h1, h2⟩ := hc k i v h
  exact ⟨(make_isCell hm k i).2 (.inl h1), by rw [make_row_lt hm h1.1 h1.2.1]; exact h2⟩
theorem mid_end {D : Pairs} (hc : CsOk H) (h : HadMid D H (rd_L1 H.sh n) (rd_L1 H.sh n).length) : Had D (makeH H n) := by
  refine ⟨fun k i => ?_, h.once, by rw [h.len, make_eq hm]⟩
  rw [h.look]
  by_cases h1 : isCell H k i
  · rw [if_pos h1, if_pos ((make_isCell hm k i).2 (.inl h1)), make_getC hm h1.1 h1.2.1]
  · rw [if_neg h1]
    by_cases h2 : k = H.objs.length + 1 ∧ 0 ≤ i ∧ i < (rd_L1 H.sh n).length
    · rw [if_pos h2, if_pos ((make_isCell hm k i).2 (.inr h2))]
      obtain ⟨rfl, _⟩ := h2
      rw [make_getN hm hc]
    · rw [if_neg h2, if_neg (fun h3 => ((make_isCell hm k i).1 h3).elim h1 h2)]
end
theorem mid_start {D : Pairs} {H : HM} (h : Had D H) (row : List Int) : HadMid D H row 0 := by
  refine ⟨fun k i => ?_, h.once, by rw [h.len]; simp⟩
  rw [h.look]
  by_cases h1 : isCell H k i
  · rw [if_pos h1, if_pos h1]
  · rw [if_neg h1, if_neg h1, if_neg (by omega)]
theorem mid_step {D : Pairs} {H : HM} {row : List Int} {j : Nat} (h : HadMid D H row j) : HadMid (putC D ((H.objs.length : Int) + 1, (j : Int)) (rd row j, 0)) H row (j + 1) := by
  have hno : ∀ i, ¬ isCell H ((H.objs.length : Int) + 1) i := fun i hi => absurd hi.2.1 (by omega)
  refine ⟨fun k i => ?_, h.once.put _ _, ?_⟩
  · rw [lookC_put]
    by_cases hk : (k, i) = ((H.objs.length : Int) + 1, (j : Int))
    · rw [if_pos hk]
      simp only [Prod.mk.injEq] at hk
      obtain ⟨rfl, rfl⟩ := hk
      rw [if_neg (hno _), if_pos ⟨rfl, by omega, by omega⟩]
    · rw [if_neg hk, h.look]
      by_cases h1 : isCell H k i
      · rw [if_pos h1, if_pos h1]
      · rw [if_neg h1, if_neg h1]
        have hk' : ¬ (k = H.objs.length + 1 ∧ i = j) := fun e => hk (by rw [e.1, e.2])
        by_cases h2 : k = H.objs.length + 1 ∧ 0 ≤ i ∧ i < j
        · rw [if_pos h2, if_pos ⟨h2.1, h2.2.1, by omega⟩]
        · rw [if_neg h2, if_neg (by omega)]
  · have e : ¬ ((H.objs.length : Int) + 1 = H.objs.length + 1 ∧ 0 ≤ (j : Int) ∧ (j : Int) < (j : Int)) := by omega
    rw [putC_length, h.look, if_neg (hno _), if_neg e]
    have := h.len
    simp
    omega

theorem wrong_cell {H : HM} {t n i vt : Int} (hr : readyC H t n = 0) (hw : wrongC H n i vt = 0) : t = 2 ∧ isCell H n i ∧ rd (rowOf H n) i = vt := by
  obtain ⟨w1, w2, w3, w4⟩ := wrongC_zero hw
  rcases readyC_cases H t n with h | ⟨_, h1, h2, h3⟩
  · omega
  · exact ⟨h1, ⟨by omega, h3, w2, w3⟩, w4⟩
theorem getC_type {H : HM} (hc : CsOk H) (n i : Int) : (getC H n i).1 = rd (rowOf H n) i := by
  unfold getC
  cases h : lookC H.cs (n, i) with
  | none => rfl
  | some v => exact (hc n i v h).2
theorem set_isCell (H : HM) (t n i vt vv k j : Int) : isCell (setH H t n i vt vv) k j ↔ isCell H k j := by
  unfold isCell rowOf
  rw [set_objs, set_sh]
theorem set_row (H : HM) (t n i vt vv k : Int) : rowOf (setH H t n i vt vv) k = rowOf H k := by
  unfold rowOf
  rw [set_objs, set_sh]
/-- Set that goes: a cell of the value's type; the map goes along. -/
theorem had_set {D : Pairs} {H : HM} {t n i vt vv : Int} (h : Had D H) (hc : CsOk H) (hs : setR H t n i vt vv = (0, 0)) :
    ∃ u : Int, lookC D (n, i) = some (vt, u) ∧ Had (putC D (n, i) (vt, vv)) (setH H t n i vt vv) ∧ CsOk (setH H t n i vt vv) := by
  unfold setR at hs
  by_cases hr : readyC H t n = 0
  · rw [if_pos hr] at hs
    by_cases hv : heldB H vt vv = true
    · rw [if_pos hv] at hs
      have hw : wrongC H n i vt = 0 := congrArg Prod.fst hs
      obtain ⟨rfl, h1, h2⟩ := wrong_cell hr hw
      have hset : setH H 2 n i vt vv = { H with cs := putC H.cs (n, i) (vt, vv) } := by
        unfold setH setsB
        rw [if_pos]
        simp [hr, hv, hw]
      have hl : lookC D (n, i) = some (vt, (getC H n i).2) := by
        rw [h.look, if_pos h1, ← h2, ← getC_type hc n i]
      refine ⟨_, hl, ⟨fun k j => ?_, h.once.put _ _, ?_⟩, fun k j v hkj => ?_⟩
      · rw [lookC_put]
        have hg : getC (setH H 2 n i vt vv) k j = (lookC (putC H.cs (n, i) (vt, vv)) (k, j)).getD (rd (rowOf H k) j, 0) := by
          unfold getC
          rw [set_row, hset]
        rw [hg, lookC_put]
        by_cases hk : (k, j) = (n, i)
        · rw [if_pos hk, if_pos hk]
          simp only [Prod.mk.injEq] at hk
          obtain ⟨rfl, rfl⟩ := hk
          rw [if_pos ((set_isCell H 2 k j vt vv k j).2 h1)]
          rfl
        · rw [if_neg hk, if_neg hk, h.look]
          by_cases hkc : isCell H k j
          · rw [if_pos hkc, if_pos ((set_isCell H 2 n i vt vv k j).2 hkc)]; rfl
          · rw [if_neg hkc, if_neg (fun e => hkc ((set_isCell H 2 n i vt vv k j).1 e))]
      · rw [putC_length, hl, set_used]
        exact h.len
      · have hkj' : lookC (putC H.cs (n, i) (vt, vv)) (k, j) = some v := by rw [hset] at hkj; exact hkj
        rw [lookC_put] at hkj'
        rw [set_isCell, set_row]
        by_cases hk : (k, j) = (n, i)
        · rw [if_pos hk] at hkj'
          simp only [Prod.mk.injEq] at hk
          obtain ⟨rfl, rfl⟩ := hk
          cases hkj'
          exact ⟨h1, h2.symm⟩
        · rw [if_neg hk] at hkj'
          exact hc k j v hkj'
    · rw [if_neg hv] at hs; simp at hs
  · rw [if_neg hr] at hs; simp at hs
/-- Set that does not go leaves the heap. -/
theorem set_not {H : HM} {t n i vt vv : Int} (hs : setR H t n i vt vv ≠ (0, 0)) : setH H t n i vt vv = H := by
  unfold setH
  rw [if_neg]
  intro h
  unfold setsB at h
  simp at h
  unfold setR at hs
  apply hs
  simp [h]

theorem rd_in {xs : List Int} {i : Int} (h0 : 0 ≤ i) (h1 : i < xs.length) : rd xs i ∈ xs := by
  unfold rd
  rw [List.getD_eq_getElem?_getD, List.getElem?_eq_getElem (by omega)]
  exact List.getElem_mem _

/-- What the map has Get answers. -/
theorem had_get {D : Pairs} {H : HM} (h : Had D H) (hc : CsOk H) (hf : HFit H) (hsh : H.sh.all shapeOk = true) {n i a b : Int} (hm : ((n, i), (a, b)) ∈ D) : getR H 2 n i a = ((a, b), 0, 0) := by
  have hl := h.once.look _ hm
  simp only at hl
  rw [h.look] at hl
  by_cases h1 : isCell H n i
  · rw [if_pos h1] at hl
    have hg : getC H n i = (a, b) := by simpa using hl
    obtain ⟨c1, c2, c3, c4⟩ := h1
    have ht : rd (rowOf H n) i = a := by rw [← getC_type hc n i, hg]
    have hr := rdL1_in (hf.obj c1 c2).1 (hf.obj c1 c2).2
    have hok := List.all_eq_true.1 hsh _ hr
    have hct : cellT a = true := by
      unfold shapeOk at hok
      simp only [Bool.and_eq_true, List.all_eq_true] at hok
      rw [← ht]
      exact hok.2 _ (rd_in c3 c4)
    have hw : wrongC H n i a = 0 := wrong_not H c1 c3 c4 ht
    unfold getR
    rw [if_pos (ready_zero (by omega) c2), if_pos hct, if_pos hw, hg]
  · rw [if_neg h1] at hl; cases hl
end Go.Proofs.Ytnomjjhocblkkaa
