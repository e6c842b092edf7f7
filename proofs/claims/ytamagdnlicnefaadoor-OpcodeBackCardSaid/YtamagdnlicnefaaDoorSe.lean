/- Opcode: Decode of Encode, and Encode of Decode (no program). -/
import Derived.Test.YtamagdnlicnefaaDoorQd
import Derived.Test.YtamagdnlicnefaaDoorOh
namespace Go.Proofs.YtamagdnlicnefaaDoor
open Go.RowKit Go.Shelf

theorem zag_zigzag (n : Int) (h0 : -9223372036854775808 ≤ n) (h1 : n ≤ 9223372036854775807) : zag (Lib.zigzag n) = n := by
  unfold zag Lib.zigzag
  split <;> split <;> omega
theorem zigzag_zag (n : Nat) (_ : n < 18446744073709551616) : Lib.zigzag (zag n) = n := by
  unfold zag Lib.zigzag
  split <;> split <;> omega
theorem oneR_enc {k : Nat} {n : Int} (h : inB k n = true) (hk : k ≤ 10) (t : List Nat) : oneR k (VP.enc (opN k n) ++ t) = (n, 0, (VP.enc (opN k n)).length) := by
  have hb := in_bounds h
  have h1 := lo_ge k
  have h2 := hi_le k hk
  have hlt := opN_lt h hk
  have hl := look_enc (opN k n) hlt t
  rw [VP.enc_length]
  unfold oneR
  by_cases h1' : k = 1
  · subst h1'
    rw [if_pos rfl]
    unfold readS
    rw [hl]
    have hz : zag (opN 1 n) = n := by
      show zag (Lib.zigzag n) = n
      exact zag_zigzag n (by omega) (by omega)
    simp only [hz]
    rw [if_pos trivial, if_neg (by omega)]
  · rw [if_neg h1']
    have hn := lo_nat k h1'
    have e : opN k n = n.toNat := if_neg h1'
    have hr : readN (VP.enc (opN k n) ++ t) (hi k) = (n.toNat, 0, VP.wid (opN k n)) := by
      unfold readN
      rw [hl]
      simp only [e]
      rw [if_pos trivial, if_neg (by omega)]
    rw [hr]
    simp only
    rw [if_neg (by omega)]
    rw [show ((n.toNat : Nat) : Int) = n from by omega]
/-- The bytes of an operand that there is. -/
def opE (k : Nat) (n : Int) : List Nat := if k = 0 then [] else VP.enc (opN k n)
theorem oneAt_enc {k : Nat} {n : Int} (h : inB k n = true) (hk : k ≤ 10) (t : List Nat) : oneAt k (opE k n ++ t) = (n, 0, (opE k n).length) := by
  unfold oneAt opE
  by_cases h0 : k = 0
  · subst h0
    rw [in_zero h]; rfl
  · rw [if_neg h0, if_neg h0]
    exact oneR_enc h hk t
/-- An instruction's bytes, as natural numbers. -/
def encN (op a b : Int) : List Nat := VP.enc op.toNat ++ (opE (ka op) a ++ opE (kb op) b)
theorem toNat_ofNat (l : List Nat) : (l.map Int.ofNat).map Int.toNat = l := by
  rw [List.map_map]
  exact List.map_id l
theorem encN_eq (op a b : Int) : (encX op a b).map Int.toNat = encN op a b := by
  unfold encX encN flatB opsL opE
  rw [List.map_append]
  congr 1
  · exact toNat_ofNat _
  · by_cases h1 : ka op = 0 <;> by_cases h2 : kb op = 0 <;> simp only [h1, h2, if_false, List.map_nil, List.nil_append, List.append_nil, List.flatten_nil, List.map_cons, List.flatten_cons, List.cons_append, opB_eq, List.map_append, valAt, if_pos] <;> (try rfl)
    · simp only [encI, toNat_ofNat]; rfl
    · simp only [encI, toNat_ofNat]
    · simp only [encI, toNat_ofNat]; rfl
theorem readN_enc {m : Nat} (hm : (m : Int) ≤ 29) (t : List Nat) : readN (VP.enc m ++ t) 29 = (m, 0, (VP.enc m).length) := by
  unfold readN
  rw [look_enc m (by omega) t, VP.enc_length]
  simp only
  rw [if_pos trivial, if_neg (by omega)]
theorem drop_len (x t : List Nat) : (x ++ t).drop x.length = t := by simp
/-- What an instruction's bytes begin is read as it was. -/
theorem decR_enc {op a b : Int} (h : okB op a b = true) (t : List Nat) : decR (encN op a b ++ t) = ((op, a, b), 0, (encN op a b).length) := by
  have h1 := ok_op h
  obtain ⟨m, rfl⟩ := Int.eq_ofNat_of_zero_le h1.1
  have e : encN m a b ++ t = VP.enc m ++ (opE (ka m) a ++ (opE (kb m) b ++ t)) := by unfold encN; simp
  have hr : readN (encN m a b ++ t) 29 = (m, 0, (VP.enc m).length) := by rw [e]; exact readN_enc (by omega) _
  unfold decR
  rw [hr]
  simp only
  rw [if_neg (by omega)]
  have ha := oneAt_enc h1.2.2.1 (ka_le _) (opE (kb m) b ++ t)
  have hb := oneAt_enc h1.2.2.2 (kb_le _) t
  have e1 : (encN m a b ++ t).drop (VP.enc m).length = opE (ka m) a ++ (opE (kb m) b ++ t) := by rw [e, drop_len]
  have e2 : (encN m a b ++ t).drop ((VP.enc m).length + (opE (ka m) a).length) = opE (kb m) b ++ t := by rw [← List.drop_drop, e1, drop_len]
  unfold decO decO2
  rw [e1, ha]
  simp only
  rw [if_neg (by omega), e2, hb]
  simp only
  rw [if_neg (by omega)]
  unfold decR2
  simp only
  rw [if_neg (by omega)]
  unfold encN
  simp only [List.length_append]
  rw [Nat.add_assoc]
  rfl
theorem oneR_said {k : Nat} {l : List Nat} (hl : ∀ b ∈ l, b < 256) (hk : k ≤ 10) (h : (oneR k l).2.1 = 0) : inB k (oneR k l).1 = true ∧ ∃ t, l = VP.enc (opN k (oneR k l).1) ++ t ∧ (oneR k l).2.2 = (VP.enc (opN k (oneR k l).1)).length := by
  unfold oneR at h ⊢
  by_cases h1 : k = 1
  · subst h1
    rw [if_pos rfl] at h ⊢
    unfold readS at h ⊢
    by_cases h0 : (look l).2.2 = 0
    · rw [if_pos h0] at h ⊢
      by_cases hm : zag (look l).1 < lo 1 ∨ hi 1 < zag (look l).1
      · rw [if_pos hm] at h; simp at h
      · rw [if_neg hm]
        simp only
        obtain ⟨q1, q2, q3, q4⟩ := look_ok l hl h0
        have hz : opN 1 (zag (look l).1) = (look l).1 := by
          show Lib.zigzag (zag (look l).1) = _
          exact zigzag_zag _ q2
        refine ⟨?_, l.drop (look l).2.1, ?_, ?_⟩
        · unfold inB
          simp only [Bool.and_eq_true, decide_eq_true_eq]
          omega
        · rw [hz, ← q4, List.take_append_drop]
        · rw [hz, VP.enc_length, q3]
    · rw [if_neg h0] at h
      exact absurd h h0
  · rw [if_neg h1] at h ⊢
    have hn := lo_nat k h1
    unfold readN at h ⊢
    by_cases h0 : (look l).2.2 = 0
    · rw [if_pos h0] at h ⊢
      by_cases hm : hi k < (look l).1
      · rw [if_pos hm] at h; simp at h
      · rw [if_neg hm] at h ⊢
        simp only at h ⊢
        by_cases hlo : ((look l).1 : Int) < lo k
        · rw [if_pos ⟨trivial, hlo⟩] at h; cases h
        obtain ⟨q1, q2, q3, q4⟩ := look_ok l hl h0
        have hz : opN k ((look l).1 : Int) = (look l).1 := by
          show (if k = 1 then _ else _) = _
          rw [if_neg h1]
          rfl
        refine ⟨?_, l.drop (look l).2.1, ?_, ?_⟩
        · unfold inB
          simp only [Bool.and_eq_true, decide_eq_true_eq]
          omega
        · rw [hz, ← q4, List.take_append_drop]
        · rw [hz, VP.enc_length, q3]
    · rw [if_neg h0] at h
      simp only at h
      rw [if_neg (by intro h'; exact h0 h'.1)] at h
      exact absurd h h0
theorem oneAt_said {k : Nat} {l : List Nat} (hl : ∀ b ∈ l, b < 256) (hk : k ≤ 10) (h : (oneAt k l).2.1 = 0) : inB k (oneAt k l).1 = true ∧ ∃ t, l = opE k (oneAt k l).1 ++ t ∧ (oneAt k l).2.2 = (opE k (oneAt k l).1).length := by
  by_cases h0 : k = 0
  · subst h0
    exact ⟨(by decide : inB 0 0 = true), l, rfl, rfl⟩
  · rw [oneAt_some h0] at h ⊢
    unfold opE
    rw [if_neg h0]
    exact oneR_said hl hk h
/-- What is read of bytes has just these. -/
theorem decR_said {l : List Nat} (hl : ∀ b ∈ l, b < 256) (h : (decR l).2.1 = 0) : okB (decR l).1.1 (decR l).1.2.1 (decR l).1.2.2 = true ∧ ∃ t, l = encN (decR l).1.1 (decR l).1.2.1 (decR l).1.2.2 ++ t ∧ (decR l).2.2 = (encN (decR l).1.1 (decR l).1.2.1 (decR l).1.2.2).length := by
  unfold decR at h ⊢
  by_cases h0 : (readN l 29).2.1 ≠ 0
  · rw [if_pos h0] at h; exact absurd h h0
  rw [if_neg h0] at h ⊢
  have hN : ∃ t, l = VP.enc (readN l 29).1 ++ t ∧ (readN l 29).2.2 = (VP.enc (readN l 29).1).length ∧ (readN l 29).1 < 30 := by
    unfold readN at h0 ⊢
    by_cases h1 : (look l).2.2 = 0
    · rw [if_pos h1] at h0 ⊢
      by_cases hm : (29 : Int) < (look l).1
      · rw [if_pos hm] at h0; simp at h0
      · rw [if_neg hm]
        obtain ⟨q1, q2, q3, q4⟩ := look_ok l hl h1
        exact ⟨l.drop (look l).2.1, by simp only; rw [← q4, List.take_append_drop], by simp only; rw [VP.enc_length, q3], by simp only; omega⟩
    · rw [if_neg h1] at h0; simp at h0; exact absurd h0 h1
  obtain ⟨t, ht, hw, hm⟩ := hN
  generalize readN l 29 = r at *
  obtain ⟨m, c, wd⟩ := r
  simp only at h ⊢ ht hw hm
  have hd : l.drop wd = t := by rw [hw, ht, drop_len]
  have htl : ∀ b ∈ t, b < 256 := fun b hb => hl b (by rw [ht]; exact List.mem_append_right _ hb)
  unfold decO decO2 at h ⊢
  rw [hd] at h ⊢
  by_cases ha : (oneAt (ka m) t).2.1 ≠ 0
  · rw [if_pos ha] at h
    unfold decR2 at h
    simp only at h
    rw [if_pos ha] at h
    exact absurd h ha
  rw [if_neg ha] at h ⊢
  obtain ⟨a1, t2, a2, a3⟩ := oneAt_said htl (ka_le _) (by simpa using ha)
  have hd2 : l.drop (wd + (oneAt (ka m) t).2.2) = t2 := by
    rw [← List.drop_drop, hd, a3]
    have := drop_len (opE (ka m) (oneAt (ka m) t).1) t2
    rw [← a2] at this
    exact this
  rw [hd2] at h ⊢
  have htl2 : ∀ b ∈ t2, b < 256 := fun b hb => htl b (by rw [a2]; exact List.mem_append_right _ hb)
  by_cases hb : (oneAt (kb m) t2).2.1 ≠ 0
  · rw [if_pos hb] at h
    unfold decR2 at h
    simp only at h
    rw [if_pos hb] at h
    exact absurd h hb
  rw [if_neg hb]
  obtain ⟨b1, t3, b2, b3⟩ := oneAt_said htl2 (kb_le _) (by simpa using hb)
  unfold decR2
  simp only
  rw [if_neg (by omega)]
  simp only
  refine ⟨?_, t3, ?_, ?_⟩
  · unfold okB knownB
    rw [a1, b1]
    simp only [Bool.and_true, Bool.and_eq_true, decide_eq_true_eq]
    omega
  · unfold encN
    rw [Int.toNat_natCast, List.append_assoc, List.append_assoc, ← b2, ← a2, ← ht]
  · unfold encN
    rw [Int.toNat_natCast, List.length_append, List.length_append, hw, a3, b3, Nat.add_assoc]
end Go.Proofs.YtamagdnlicnefaaDoor
