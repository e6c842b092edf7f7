/- Signatures: the document's functions, plain. -/
import Derived.Test.YtacmajlbaenjfaaSr
import Derived.Test.YtacmajlbaenjfaaPRefc
namespace Go.Proofs.Ytacmajlbaenjfaa
open Go.RowKit Go.Shelf Go.Proofs.YtacmajlbaenjfaaW.PrintWords Go.Proofs.YtacmajlbaenjfaaW.PrintLast Go.Proofs.YtacmajlbaenjfaaW.PrintMore
open Go.Proofs.Ytacmajlbaenjfaa.PRef

theorem tyB_false (t : Int) : tyB false t = (decide (1 ≤ t) && decide (t ≤ 4)) := by
  unfold tyB knownT
  rw [Bool.eq_iff_iff]; simp; omega
theorem checksig_l (xs ys : List Int) (hl : xs.length ≤ 1000) : ∀ k (i : Nat), i ≤ xs.length → xs.length - i < k → backstayref06_CheckSignature.l0 k (i : Int) xs ys = some (if (xs.drop i).all (tyB false) then 0 else 61)
  | 0, i, _, h => by omega
  | k + 1, i, hi, h => by
    unfold backstayref06_CheckSignature.l0
    by_cases h1 : i < xs.length
    · rw [if_pos (by omega), if_pos (by omega), rd_drop h1, List.all_cons, tyB_false]
      by_cases h2 : rd xs (i : Int) < 1
      · rw [if_pos h2, decide_eq_false (by omega)]; rfl
      · rw [if_neg h2, decide_eq_true (show 1 ≤ rd xs (i : Int) by omega)]
        by_cases h3 : rd xs (i : Int) > 4
        · rw [if_pos h3, decide_eq_false (by omega)]; rfl
        · rw [if_neg h3, decide_eq_true (show rd xs (i : Int) ≤ 4 by omega), wrapN (by omega) (by omega)]
          have := checksig_l xs ys hl k (i + 1) (by omega) (by omega)
          rw [show ((i : Nat) : Int) + 1 = ((i + 1 : Nat) : Int) by omega, this]
          rfl
    · rw [if_neg (by omega), List.drop_eq_nil_of_le (by omega)]; rfl
theorem j0_eq (k : Nat) (b : Bool) (xs ys : List Int) : backstayref06_CheckSignature.j0 (k + 1) b xs ys = if b = true then some 61 else backstayref06_CheckSignature.l0 k 0 xs ys := by rw [backstayref06_CheckSignature.j0]
theorem checksig_f (xs ys : List Int) (hl : xs.length ≤ 1000) (hm : ys.length ≤ 1000) : backstayref06_CheckSignature.f 2000 xs ys = some (chkG xs ys) := by
  unfold backstayref06_CheckSignature.f
  rw [held_f ys hm]
  simp only [Option.bind_some]
  rw [wrapN (by omega) (by omega)]
  unfold chkG sigOk
  cases hy : ys.all (tyB true)
  · rw [if_neg (by decide), Bool.and_false]
    exact (j0_eq 1999 _ _ _).trans (by rw [if_pos rfl]; rfl)
  · rw [if_pos rfl, Bool.and_true]
    refine (j0_eq 1999 _ _ _).trans ?_
    by_cases h1 : xs.length + ys.length ≤ 64
    · rw [decide_eq_false (show ¬ ((xs.length : Int) + (ys.length : Int) > 64) by omega), decide_eq_true h1, if_neg (by decide), Bool.true_and]
      have := checksig_l xs ys hl 1999 0 (by omega) (by omega)
      simpa using this
    · rw [decide_eq_true (show (xs.length : Int) + (ys.length : Int) > 64 by omega), decide_eq_false h1, if_pos rfl]; rfl
theorem checksig_fK (K : Nat) (hK : 2000 ≤ K) (xs ys : List Int) (hl : xs.length ≤ 1000) (hm : ys.length ≤ 1000) : backstayref06_CheckSignature.f K xs ys = some (chkG xs ys) :=
  liftO (F := fun k => backstayref06_CheckSignature.f k xs ys) (backstayref06_CheckSignature.mono xs ys) (checksig_f xs ys hl hm) K hK
theorem chkG_zero {xs ys : List Int} : chkG xs ys = 0 ↔ sigOk xs ys = true := by
  unfold chkG
  cases sigOk xs ys <;> simp
theorem encsig_f (xs ys : List Int) (hl : xs.length ≤ 1000) (hm : ys.length ≤ 1000) : backstayref06_EncodeSignature.f 2000 xs ys = some (encG xs ys) := by
  unfold backstayref06_EncodeSignature.f encG
  rw [checksig_f xs ys hl hm]
  simp only [Option.bind_some]
  by_cases h : sigOk xs ys = true
  · have hk := sigOk_len h
    rw [if_pos (chkG_zero.2 h), if_pos h, types_f xs (sigOk_args h) (by omega)]
    simp only [Option.bind_some]
    rw [types_f ys (fun x hx => by have := sigOk_res h x hx; omega) (by omega)]
    simp only [Option.bind_some]
    have h1 := packL_len (xs := xs)
    have h2 := packL_len (xs := ys)
    rw [if_pos (by omega)]
  · rw [if_neg (fun e => h (chkG_zero.1 e)), if_neg h]
theorem showsig_f (xs ys : List Int) (hl : xs.length ≤ 1000) (hm : ys.length ≤ 1000) : backstayref06_ShowSignature.f 2000 xs ys = some ⟨(showG xs ys).toArray⟩ := by
  unfold backstayref06_ShowSignature.f showG
  rw [checksig_f xs ys hl hm]
  simp only [Option.bind_some]
  by_cases h : sigOk xs ys = true
  · have h1 := textL_len xs
    have h2 := textL_len ys
    rw [if_pos (chkG_zero.2 h), if_pos h, text_f 2000 (Nat.le_refl _)]
    simp only [Option.bind_some]
    have e1 : (⟨(textL xs).toArray⟩ : ByteArray).size = (textL xs).length := by simp [ByteArray.size]
    have e2 : (⟨(textL ys).toArray⟩ : ByteArray).size = (textL ys).length := by simp [ByteArray.size]
    rw [if_pos (by omega), text_f 2000 (Nat.le_refl _)]
    simp only [Option.bind_some]
    rw [if_pos (by rw [ByteArray.size_append, e1, e2]; show (textL xs).length + 1 + (textL ys).length ≤ _; omega)]
    congr 1
  · rw [if_neg (fun e => h (chkG_zero.1 e)), if_neg h]
theorem same_f (a b c d : List Int) (hl : a.length ≤ 1000) (hm : b.length ≤ 1000) : backstayref06_Same.f 2000 a b c d = some (decide (a = c) && decide (b = d)) := by
  unfold backstayref06_Same.f
  rw [ints_f a c hl, Option.bind_some, ints_f b d hm, Option.bind_some]
  by_cases h : a = c
  · rw [decide_eq_true h, if_pos rfl, Bool.true_and]
  · rw [decide_eq_false h, if_neg (by decide)]; rfl
theorem typesR_len (bs : List Int) (p : Nat) (most : Int) (h0 : 0 ≤ most) (h1 : most ≤ 64) : (typesR bs p most).2.1.length ≤ 64 := by
  unfold typesR
  split
  · rename_i h
    have := readN_most h
    split
    · rw [List.length_take]; omega
    · simp
  · simp

/-- What DecodeSignature answers: both lists, the error, how far the place is moved. -/
def decG (bs : List Int) (p : Nat) : List Int × List Int × Int × Nat :=
  if (typesR bs p 64).1 then
    (if (typesR bs (p + (typesR bs p 64).2.2) 64).1 ∧ sigOk (typesR bs p 64).2.1 (typesR bs (p + (typesR bs p 64).2.2) 64).2.1 then
      ((typesR bs p 64).2.1, (typesR bs (p + (typesR bs p 64).2.2) 64).2.1, 0, (typesR bs p 64).2.2 + (typesR bs (p + (typesR bs p 64).2.2) 64).2.2)
     else ([], [], 61, 0))
  else ([], [], 61, 0)
theorem decG_no1 {bs : List Int} {p : Nat} (h : (typesR bs p 64).1 = false) : decG bs p = ([], [], 61, 0) := by
  unfold decG; rw [h]; rfl
theorem decG_no2 {bs : List Int} {p : Nat} (h : (typesR bs (p + (typesR bs p 64).2.2) 64).1 = false) : decG bs p = ([], [], 61, 0) := by
  unfold decG
  rw [h, if_neg (c := false = true ∧ _) (fun h => by cases h.1)]
  split <;> rfl
theorem decG_no3 {bs : List Int} {p : Nat} (h : sigOk (typesR bs p 64).2.1 (typesR bs (p + (typesR bs p 64).2.2) 64).2.1 = false) : decG bs p = ([], [], 61, 0) := by
  unfold decG
  rw [if_neg (c := (typesR bs (p + (typesR bs p 64).2.2) 64).1 = true ∧ _) (fun h' => by rw [h] at h'; cases h'.2)]
  split <;> rfl
theorem decG_yes {bs : List Int} {p : Nat} (h1 : (typesR bs p 64).1 = true) (h2 : (typesR bs (p + (typesR bs p 64).2.2) 64).1 = true) (h3 : sigOk (typesR bs p 64).2.1 (typesR bs (p + (typesR bs p 64).2.2) 64).2.1 = true) :
    decG bs p = ((typesR bs p 64).2.1, (typesR bs (p + (typesR bs p 64).2.2) 64).2.1, 0, (typesR bs p 64).2.2 + (typesR bs (p + (typesR bs p 64).2.2) 64).2.2) := by
  unfold decG
  rw [if_pos h1, if_pos ⟨h2, h3⟩]
theorem decG_len (bs : List Int) (p : Nat) : (decG bs p).1.length ≤ 64 ∧ (decG bs p).2.1.length ≤ 64 := by
  have h1 := typesR_len bs p 64 (by omega) (by omega)
  have h2 := typesR_len bs (p + (typesR bs p 64).2.2) 64 (by omega) (by omega)
  unfold decG
  split
  · split
    · exact ⟨h1, h2⟩
    · simp
  · simp
end Go.Proofs.Ytacmajlbaenjfaa
