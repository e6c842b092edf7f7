/- HeapSound's plain law: what is in cells is held, of its type; how many cells there are. -/
import Derived.Test.YtnomjjhocblkkaaNa
namespace Go.Proofs.Ytnomjjhocblkkaa
open Go.RowKit Go.Shelf Go.Proofs.YtnomjjhocblkkaaW.PrintWords Go.Proofs.YtnomjjhocblkkaaW.PrintLast Go.Proofs.YtnomjjhocblkkaaW.PrintMore
open Go.Proofs.Ytnomjjhocblkkaa.PHeapSound

/-- What was set is held. -/
def ValsOk (H : HM) : Prop := ∀ n i v, lookC H.cs (n, i) = some v → heldB H v.1 v.2 = true
/-- How many cells the first k objects have. -/
def sumR (H : HM) : Nat → Int
  | 0 => 0
  | k + 1 => sumR H k + (rowOf H ((k : Int) + 1)).length
structure Sound (H : HM) : Prop where
  cs : CsOk H
  vals : ValsOk H
  used : H.used = sumR H H.objs.length

theorem held_mono {H H' : HM} {t n : Int} (h : heldB H t n = true) (hl : H.objs.length ≤ H'.objs.length) : heldB H' t n = true := by
  unfold heldB at h ⊢
  simp at h ⊢
  refine ⟨h.1, ?_⟩
  rcases h.2 with (h2 | h2) | h2
  · exact .inl (.inl h2)
  · exact .inl (.inr ⟨h2.1, by omega⟩)
  · exact .inr h2

theorem sound_new (sh : List (List Int)) (q : Int) : Sound ⟨sh, q, 0, [], []⟩ := ⟨(had_new sh q).2, fun n i v h => by simp [lookC_nil] at h, rfl⟩
theorem sumR_make {H : HM} {n : Int} (hm : makeC H n = 0) : ∀ k : Nat, k ≤ H.objs.length → sumR (makeH H n) k = sumR H k
  | 0, _ => rfl
  | k + 1, hk => by rw [sumR, sumR, sumR_make hm k (by omega), make_row_lt hm (by omega) (by omega)]
theorem Sound.make {H : HM} (h : Sound H) (n : Int) : Sound (makeH H n) := by
  by_cases hm : makeC H n = 0
  · refine ⟨make_csok hm h.cs, fun k i v hv => ?_, ?_⟩
    · rw [make_cs] at hv
      exact held_mono (h.vals k i v hv) (by have := make_len hm; omega)
    · have e : (makeH H n).objs.length = H.objs.length + 1 := by have := make_len hm; omega
      rw [e, sumR, sumR_make hm _ (Nat.le_refl _), make_row_eq hm, ← h.used, make_eq hm]
  · have hh : makeH H n = H := by unfold makeH; rw [if_neg hm]
    rw [hh]; exact h
theorem sumR_set (H : HM) (t n i vt vv : Int) : ∀ k : Nat, sumR (setH H t n i vt vv) k = sumR H k
  | 0 => rfl
  | k + 1 => by rw [sumR, sumR, sumR_set H t n i vt vv k, set_row]
theorem Sound.set {H : HM} (h : Sound H) (t n i vt vv : Int) : Sound (setH H t n i vt vv) := by
  by_cases hs : setsB H t n i vt vv = true
  · have hset : setH H t n i vt vv = { H with cs := putC H.cs (n, i) (vt, vv) } := by unfold setH; rw [if_pos hs]
    unfold setsB at hs
    simp only [Bool.and_eq_true, decide_eq_true_eq] at hs
    obtain ⟨⟨hr, hv⟩, hw⟩ := hs
    obtain ⟨rfl, h1, h2⟩ := wrong_cell hr hw
    refine ⟨fun k j v hkj => ?_, fun k j v hkj => ?_, by rw [set_used, set_objs, sumR_set]; exact h.used⟩
    · have hkj' : lookC (putC H.cs (n, i) (vt, vv)) (k, j) = some v := by rw [hset] at hkj; exact hkj
      rw [lookC_put] at hkj'
      rw [set_isCell, set_row]
      by_cases hk : (k, j) = (n, i)
      · rw [if_pos hk] at hkj'
        simp only [Prod.mk.injEq] at hk
        obtain ⟨rfl, rfl⟩ := hk
        cases hkj'
        exact ⟨h1, h2.symm⟩
      · rw [if_neg hk] at hkj'
        exact h.cs k j v hkj'
    · have hkj' : lookC (putC H.cs (n, i) (vt, vv)) (k, j) = some v := by rw [hset] at hkj; exact hkj
      rw [lookC_put] at hkj'
      by_cases hk : (k, j) = (n, i)
      · rw [if_pos hk] at hkj'
        cases hkj'
        exact held_mono hv (by rw [set_objs]; exact Nat.le_refl _)
      · rw [if_neg hk] at hkj'
        exact held_mono (h.vals k j v hkj') (by rw [set_objs]; exact Nat.le_refl _)
  · have hset : setH H t n i vt vv = H := by unfold setH; rw [if_neg hs]
    rw [hset]; exact h

/-- A cell's value is held, and of its type. -/
theorem Sound.held {H : HM} (h : Sound H) (hf : HFit H) (hsh : H.sh.all shapeOk = true) {n i : Int} (hc : isCell H n i) : heldB H (getC H n i).1 (getC H n i).2 = true ∧ (getC H n i).1 = rd (rowOf H n) i := by
  refine ⟨?_, getC_type h.cs n i⟩
  unfold getC
  cases hl : lookC H.cs (n, i) with
  | none =>
    have hr := rdL1_in (hf.obj hc.1 hc.2.1).1 (hf.obj hc.1 hc.2.1).2
    have hok := List.all_eq_true.1 hsh _ hr
    unfold shapeOk at hok
    simp only [Bool.and_eq_true, List.all_eq_true] at hok
    exact held_zero (hok.2 _ (rd_in hc.2.2.1 hc.2.2.2))
  | some v => exact h.vals n i v hl
theorem held_type {H : HM} {t n : Int} (h : heldB H t n = true) : okV t n = true ∧ (t == 4) = false := by
  unfold heldB at h
  simp at h
  refine ⟨h.1, ?_⟩
  rcases h.2 with (h2 | h2) | h2
  · subst h2; rfl
  · rw [h2.1]; rfl
  · rw [h2.1]; rfl
theorem csOf_at (H : HM) (n : Int) {j : Nat} (hj : j < (rowOf H n).length) : rd_T32 (csOf H n) (j : Int) = ⟨(getC H n j).1, (getC H n j).2⟩ := by
  unfold rd_T32
  rw [Int.toNat_natCast, List.getD_eq_getElem?_getD, List.getElem?_eq_getElem (by rw [csOf_length]; exact hj)]
  simp [csOf]

theorem fits_l0 (row : List Int) (cs : List S32) (hl : cs.length = row.length) (hs : row.length ≤ 16) (hc : ∀ j : Nat, j < row.length → (rd_T32 cs (j : Int)).f0 = rd row (j : Int) ∧ okV (rd_T32 cs (j : Int)).f0 (rd_T32 cs (j : Int)).f1 = true) :
    ∀ m j : Nat, j + m = row.length → value_Fits.l0 (m + 1) row cs cs.length j = some true
  | 0, j, hj => by rw [value_Fits.l0, if_neg (by omega)]
  | m + 1, j, hj => by
    obtain ⟨h1, h2⟩ := hc j (by omega)
    rw [value_Fits.l0, if_pos (by omega), if_pos (by omega), if_pos (by omega), if_pos (by omega), if_pos h1, check_val, h2]
    have e1 : wrap64 ((j : Int) + 1) = ((j + 1 : Nat) : Int) := by unfold wrap64; omega
    simp only [Option.bind_some, if_true, e1]
    exact fits_l0 row cs hl hs hc m (j + 1) (by omega)
theorem Sound.fits {H : HM} (h : Sound H) (hf : HFit H) (hsh : H.sh.all shapeOk = true) {n : Int} (h1 : 1 ≤ n) (h2 : n ≤ H.objs.length) : value_Fits.f ((rowOf H n).length + 1) (rowOf H n) (csOf H n) = some true := by
  have hl := csOf_length H n
  unfold value_Fits.f
  rw [if_pos (by omega)]
  refine fits_l0 (rowOf H n) (csOf H n) hl (hf.row _ (rdL1_in (hf.obj h1 h2).1 (hf.obj h1 h2).2)) (fun j hj => ?_) _ 0 (by omega)
  rw [csOf_at H n hj]
  obtain ⟨h3, h4⟩ := h.held hf hsh (n := n) (i := j) ⟨h1, h2, by omega, by omega⟩
  exact ⟨h4, (held_type h3).1⟩
theorem sumR_le {H : HM} (hf : HFit H) : ∀ k : Nat, k ≤ H.objs.length → 0 ≤ sumR H k ∧ sumR H k ≤ 16 * k
  | 0, _ => by simp [sumR]
  | k + 1, hk => by
    have h1 := sumR_le hf k (by omega)
    have h3 := hf.obj (n := (k : Int) + 1) (by omega) (by omega)
    have h2 : (rowOf H ((k : Int) + 1)).length ≤ 16 := hf.row _ (rdL1_in h3.1 h3.2)
    rw [sumR]
    omega
end Go.Proofs.Ytnomjjhocblkkaa
