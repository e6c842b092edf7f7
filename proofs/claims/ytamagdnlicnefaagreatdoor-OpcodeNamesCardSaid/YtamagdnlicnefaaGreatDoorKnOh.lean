/- Opcode: Decode. -/
import Derived.Test.YtamagdnlicnefaaGreatDoorKnOg
namespace Go.Proofs.YtamagdnlicnefaaGreatDoor
open Go.RowKit Go.Shelf Go.Proofs.YtamagdnlicnefaaGreatDoorW.PrintWords Go.Proofs.YtamagdnlicnefaaGreatDoorW.PrintLast Go.Proofs.YtamagdnlicnefaaGreatDoorW.PrintMore
attribute [local go_sem] Oper.semAt_some wide_fn2 wide_depth2

def oneAt (k : Nat) (l : List Nat) : Int × Nat × Nat := if k = 0 then (0, 0, 0) else oneR k l
def decO2 (x : Int × Nat × Nat) (k2 : Nat) (l : List Nat) (w1 : Nat) : (Int × Int) × Nat × Nat :=
  if (oneAt k2 (l.drop w1)).2.1 ≠ 0 then ((0, 0), (oneAt k2 (l.drop w1)).2.1, w1 + (oneAt k2 (l.drop w1)).2.2) else ((x.1, (oneAt k2 (l.drop w1)).1), 0, w1 + (oneAt k2 (l.drop w1)).2.2)
def decO (k1 k2 : Nat) (l : List Nat) (w0 : Nat) : (Int × Int) × Nat × Nat :=
  if (oneAt k1 (l.drop w0)).2.1 ≠ 0 then ((0, 0), (oneAt k1 (l.drop w0)).2.1, w0 + (oneAt k1 (l.drop w0)).2.2) else decO2 (oneAt k1 (l.drop w0)) k2 l (w0 + (oneAt k1 (l.drop w0)).2.2)
def decR2 (op : Nat) (z : (Int × Int) × Nat × Nat) : (Int × Int × Int) × Nat × Nat := if z.2.1 ≠ 0 then ((0, 0, 0), z.2.1, z.2.2) else ((op, z.1.1, z.1.2), 0, z.2.2)
def decR (l : List Nat) : (Int × Int × Int) × Nat × Nat :=
  if (readN l 29).2.1 ≠ 0 then ((0, 0, 0), (readN l 29).2.1, (readN l 29).2.2) else decR2 (readN l 29).1 (decO (ka (readN l 29).1) (kb (readN l 29).1) l (readN l 29).2.2)
def stepR (l : List Nat) (s : Int × Int × Nat × Nat) (x : Nat × Nat) : Int × Int × Nat × Nat :=
  (if x.2 = 1 then (oneR x.1 (l.drop s.2.2.2)).1 else s.1, if x.2 = 1 then s.2.1 else (oneR x.1 (l.drop s.2.2.2)).1, (oneR x.1 (l.drop s.2.2.2)).2.1, s.2.2.2 + (oneR x.1 (l.drop s.2.2.2)).2.2)
def foldR (l : List Nat) (w0 : Nat) (pre : List (Nat × Nat)) : Int × Int × Nat × Nat := pre.foldl (stepR l) (0, 0, 0, w0)
theorem foldR_snoc (l : List Nat) (w0 : Nat) (pre : List (Nat × Nat)) (x : Nat × Nat) : foldR l w0 (pre ++ [x]) = stepR l (foldR l w0 pre) x := by simp [foldR]
theorem rest_drop (bs : List Int) (p d : Nat) : rest bs (p + d) = (rest bs p).drop d := by unfold rest; simp only [List.map_drop, List.drop_drop]
theorem oneAt_some {k : Nat} (h : k ≠ 0) (l : List Nat) : oneAt k l = oneR k l := if_neg h
theorem oneAt_none (l : List Nat) : oneAt 0 l = (0, 0, 0) := rfl
theorem opsL_00 : opsL 0 0 = [] := rfl
theorem opsL_0k {k : Nat} (h : k ≠ 0) : opsL 0 k = [(k, 2)] := by simp [opsL, h]
theorem opsL_k0 {k : Nat} (h : k ≠ 0) : opsL k 0 = [(k, 1)] := by simp [opsL, h]
theorem opsL_kk {k1 k2 : Nat} (h1 : k1 ≠ 0) (h2 : k2 ≠ 0) : opsL k1 k2 = [(k1, 1), (k2, 2)] := by simp [opsL, h1, h2]
theorem foldR_0 (l : List Nat) (w0 : Nat) : foldR l w0 [] = (0, 0, 0, w0) := rfl
theorem foldR_1 (l : List Nat) (w0 k : Nat) : foldR l w0 [(k, 1)] = ((oneR k (l.drop w0)).1, 0, (oneR k (l.drop w0)).2.1, w0 + (oneR k (l.drop w0)).2.2) := rfl
theorem foldR_2 (l : List Nat) (w0 k : Nat) : foldR l w0 [(k, 2)] = (0, (oneR k (l.drop w0)).1, (oneR k (l.drop w0)).2.1, w0 + (oneR k (l.drop w0)).2.2) := rfl
theorem foldR_12 (l : List Nat) (w0 k k2 : Nat) : foldR l w0 [(k, 1), (k2, 2)] = ((oneR k (l.drop w0)).1, (oneR k2 (l.drop (w0 + (oneR k (l.drop w0)).2.2))).1, (oneR k2 (l.drop (w0 + (oneR k (l.drop w0)).2.2))).2.1, w0 + (oneR k (l.drop w0)).2.2 + (oneR k2 (l.drop (w0 + (oneR k (l.drop w0)).2.2))).2.2) := rfl
theorem decO_all (k1 k2 : Nat) (l : List Nat) (w0 : Nat) (h : ∀ pre, pre <+: opsL k1 k2 → (foldR l w0 pre).2.2.1 = 0) :
    decO k1 k2 l w0 = (((foldR l w0 (opsL k1 k2)).1, (foldR l w0 (opsL k1 k2)).2.1), 0, (foldR l w0 (opsL k1 k2)).2.2.2) := by
  have h0 := h _ List.prefix_rfl
  unfold decO decO2
  by_cases h1 : k1 = 0
  · subst h1
    rw [oneAt_none, if_neg (by simp)]
    by_cases h2 : k2 = 0
    · subst h2
      rw [oneAt_none, if_neg (by simp), opsL_00, foldR_0]
      rfl
    · rw [opsL_0k h2, foldR_2] at h0
      simp only at h0
      rw [oneAt_some h2, opsL_0k h2, foldR_2]
      simp only [Nat.add_zero]
      rw [if_neg (by omega)]
  · rw [oneAt_some h1]
    by_cases h2 : k2 = 0
    · subst h2
      rw [opsL_k0 h1, foldR_1] at h0
      simp only at h0
      rw [if_neg (by omega), oneAt_none, if_neg (by simp), opsL_k0 h1, foldR_1]
      rfl
    · have h3 := h [(k1, 1)] (by rw [opsL_kk h1 h2]; exact ⟨[(k2, 2)], rfl⟩)
      rw [foldR_1] at h3
      rw [opsL_kk h1 h2, foldR_12] at h0
      simp only at h0 h3
      rw [if_neg (by omega), oneAt_some h2, if_neg (by omega), opsL_kk h1 h2, foldR_12]
theorem decO_some (k1 k2 : Nat) (l : List Nat) (w0 : Nat) (pre : List (Nat × Nat)) (x : Nat × Nat) (hx : pre ++ [x] <+: opsL k1 k2) (hp : (foldR l w0 pre).2.2.1 = 0) (he : (foldR l w0 (pre ++ [x])).2.2.1 ≠ 0) :
    (decO k1 k2 l w0).2 = ((foldR l w0 (pre ++ [x])).2.2.1, (foldR l w0 (pre ++ [x])).2.2.2) := by
  unfold decO decO2
  by_cases h1 : k1 = 0
  · subst h1
    rw [oneAt_none, if_neg (by simp)]
    by_cases h2 : k2 = 0
    · subst h2
      rw [opsL_00] at hx
      have := hx.length_le
      simp at this
    · rw [opsL_0k h2] at hx
      have hl := hx.length_le
      obtain rfl : pre = [] := List.eq_nil_of_length_eq_zero (by rw [List.length_append] at hl; simp only [List.length_cons, List.length_nil] at hl; omega)
      obtain ⟨r, hr⟩ := hx
      injection hr with hr _
      subst hr
      rw [List.nil_append, foldR_2] at he ⊢
      simp only at he
      rw [oneAt_some h2]
      simp only [Nat.add_zero]
      rw [if_pos he]
  · rw [oneAt_some h1]
    by_cases h2 : k2 = 0
    · subst h2
      rw [opsL_k0 h1] at hx
      have hl := hx.length_le
      obtain rfl : pre = [] := List.eq_nil_of_length_eq_zero (by rw [List.length_append] at hl; simp only [List.length_cons, List.length_nil] at hl; omega)
      obtain ⟨r, hr⟩ := hx
      injection hr with hr _
      subst hr
      rw [List.nil_append, foldR_1] at he ⊢
      simp only at he
      rw [if_pos he]
    · rw [opsL_kk h1 h2] at hx
      have hl := hx.length_le
      match pre, hx, hp, he with
      | [], hx, hp, he =>
        obtain ⟨r, hr⟩ := hx
        injection hr with hr _
        subst hr
        rw [List.nil_append, foldR_1] at he ⊢
        simp only at he
        rw [if_pos he]
      | [y], hx, hp, he =>
        obtain ⟨r, hr⟩ := hx
        injection hr with h3 h4
        injection h4 with h4 _
        subst h3
        subst h4
        rw [foldR_1] at hp
        simp only [List.cons_append, List.nil_append] at he ⊢
        rw [foldR_12] at he ⊢
        simp only at he hp
        rw [if_neg (by omega), oneAt_some h2, if_pos he]
      | y :: z :: t, hx, _, _ => exact absurd hx.length_le (by simp)
end Go.Proofs.YtamagdnlicnefaaGreatDoor
