/- The document's ReadSignature: plain. -/
import Derived.Test.YtacmajlbaenjfaaSw
namespace Go.Proofs.Ytacmajlbaenjfaa
open Go.RowKit Go.Shelf Go.Proofs.YtacmajlbaenjfaaW.PrintWords Go.Proofs.YtacmajlbaenjfaaW.PrintLast Go.Proofs.YtacmajlbaenjfaaW.PrintMore
open Go.Proofs.Ytacmajlbaenjfaa.PRef

theorem cut_at : ∀ (p q : List UInt8), hasA p = false → cutA (p ++ 62 :: q) = p ∧ cutB (p ++ 62 :: q) = q ∧ hasA (p ++ 62 :: q) = true
  | [], q, _ => ⟨rfl, rfl, rfl⟩
  | d :: t, q, h => by
    simp only [hasA, Bool.or_eq_false_iff, beq_eq_false_iff_ne] at h
    obtain ⟨h1, h2, h3⟩ := cut_at t q h.2
    simp only [List.cons_append, cutA, cutB, hasA]
    rw [if_neg h.1, if_neg h.1, h1, h2, h3]; simp
theorem readG_none {l : List UInt8} (h : hasA l = false) : readG l = ([], [], 61) := by
  unfold readG
  rw [if_neg (fun h' => by rw [h] at h'; cases h'.1)]
theorem ext_take (s : ByteArray) (i : Nat) : (s.extract 0 i).data.toList = s.data.toList.take i := by
  rw [ByteArray.data_extract, Array.toList_extract]
  show List.take (i - 0) (List.drop 0 s.data.toList) = _
  rw [List.drop_zero, Nat.sub_zero]
theorem ext_drop (s : ByteArray) (i : Nat) : (s.extract i s.size).data.toList = s.data.toList.drop i := by
  rw [ByteArray.data_extract, Array.toList_extract]
  show List.take (s.size - i) (List.drop i s.data.toList) = _
  exact List.take_of_length_le (by simp)
theorem readsig_l (s : ByteArray) (hs : s.size ≤ 240) : ∀ j K (i : Nat), i + j = s.size → 7500 + j ≤ K → hasA (s.data.toList.take i) = false → backstayref06_ReadSignature.l0 K s (i : Int) = some (readG s.data.toList)
  | 0, K, i, hi, hK, ha => by
    obtain ⟨K, rfl⟩ : ∃ K', K = K' + 1 := ⟨K - 1, by omega⟩
    unfold backstayref06_ReadSignature.l0
    have e : s.data.toList.take i = s.data.toList := List.take_of_length_le (by simp; omega)
    rw [e] at ha
    rw [if_neg (by omega), readG_none ha]
  | j + 1, K, i, hi, hK, ha => by
    obtain ⟨K, rfl⟩ : ∃ K', K = K' + 1 := ⟨K - 1, by omega⟩
    have hlt : i < s.size := by omega
    have hlk : i < s.data.toList.length := by simpa using hlt
    have hw : wrap64 ((i : Int) + 1) = ((i + 1 : Nat) : Int) := by rw [wrapN (by omega) (by omega)]; omega
    have hbt : bt s (i : Int) = ((s[i]'hlt).toNat : Int) := by
      unfold bt
      simp [hlt]
    unfold backstayref06_ReadSignature.l0
    rw [if_pos (by omega), if_pos (by omega), hbt, hw]
    by_cases hc : s[i]'hlt = 62
    · have hc62 : (((s[i]'hlt).toNat : Nat) : Int) = 62 := by rw [hc]; rfl
      have hl : s.data.toList = s.data.toList.take i ++ 62 :: s.data.toList.drop (i + 1) := by
        have h1 := (List.take_append_drop i s.data.toList).symm
        rw [List.drop_eq_getElem_cons hlk] at h1
        have h2 : s.data.toList[i]'hlk = 62 := hc
        rw [h2] at h1
        exact h1
      obtain ⟨g1, g2, g3⟩ := cut_at _ (s.data.toList.drop (i + 1)) ha
      rw [← hl] at g1 g2 g3
      have a1 : (0 : Int) ≤ ((i + 1 : Nat) : Int) := by omega
      have a2 : ((i + 1 : Nat) : Int) ≤ (s.size : Int) := by omega
      rw [if_pos hc62, if_pos (by omega), Int.toNat_natCast, types02_f K (by omega)]
      simp only [Option.bind_some]
      rw [if_pos a1, if_pos a2, Int.toNat_natCast, types02_f K (by omega)]
      simp only [Option.bind_some]
      rw [ext_take, ext_drop]
      have hl1 := typesT_len (s.data.toList.take i) (by rw [List.length_take]; simp; omega)
      have hl2 := typesT_len (s.data.toList.drop (i + 1)) (by rw [List.length_drop]; simp; omega)
      unfold readG
      rw [g1, g2, g3]
      by_cases h1 : (typesT (s.data.toList.take i)).2 = 0
      · rw [if_pos h1]
        by_cases h2 : (typesT (s.data.toList.drop (i + 1))).2 = 0
        · rw [if_pos h2, checksig_fK K (by omega) _ _ hl1 hl2]
          simp only [Option.bind_some]
          by_cases h3 : sigOk (typesT (s.data.toList.take i)).1 (typesT (s.data.toList.drop (i + 1))).1 = true
          · rw [if_pos (chkG_zero.2 h3), if_pos ⟨by trivial, h1, h2, h3⟩]
          · rw [if_neg (fun e => h3 (chkG_zero.1 e)), if_neg (fun e => h3 e.2.2.2)]
        · rw [if_neg h2, if_neg (fun e => h2 e.2.2.1)]
      · rw [if_neg h1, if_neg (fun e => h1 e.2.1)]
    · have hc62 : ¬ (((s[i]'hlt).toNat : Nat) : Int) = 62 := fun e => hc (UInt8.toNat_inj.1 (by show (s[i]'hlt).toNat = 62; omega))
      rw [if_neg hc62]
      exact readsig_l s hs j K (i + 1) (by omega) (by omega) (by rw [List.take_succ_eq_append_getElem hlk]; exact cut_no _ _ ha hc)
theorem readsig_f (s : ByteArray) (hs : s.size ≤ 240) : backstayref06_ReadSignature.f 8000 s = some (readG s.data.toList) := by
  unfold backstayref06_ReadSignature.f
  exact readsig_l s hs s.size 8000 0 (by omega) (by omega) rfl
theorem readG_len (l : List UInt8) : (readG l).1.length ≤ 64 ∧ (readG l).2.1.length ≤ 64 := by
  unfold readG
  split
  · rename_i h
    have := sigOk_len h.2.2.2
    exact ⟨by show (typesT (cutA l)).1.length ≤ 64; omega, by show (typesT (cutB l)).1.length ≤ 64; omega⟩
  · simp
theorem read35 (W : World) (s : ByteArray) (hs : s.size ≤ 240) :
    Calls Try.prog 35 #[.string s] W fun e w' => ∃ u u2, e = .returned (.tuple #[.agg #[u, u2], .int .i64 (readG s.data.toList).2.2]) ∧
      w'.ownsRow W.heap.size 3 1 u (readG s.data.toList).1.length (nums .i64 (readG s.data.toList).1) ∧ w'.ownsRow W.heap.size 3 1 u2 (readG s.data.toList).2.1.length (nums .i64 (readG s.data.toList).2.1) ∧ Below W.heap.size W w' :=
  (backstayref06_ReadSignature.calls 8000 s _ _ _ W (readsig_f s hs)).mono fun _ _ ⟨u, u2, he, h1, h2, h3⟩ => ⟨u, u2, he, Kd.own_of_R h1, Kd.own_of_R h2, h3⟩
theorem same36 (W : World) (A B A2 B2 : Option Addr) (c d c2 d2 : Nat) (xs ys xs2 ys2 : List Int) (hC : (Kd.int .i64).C W A xs.length xs) (hc : xs.length ≤ c) (hD : (Kd.int .i64).C W B ys.length ys) (hd : ys.length ≤ d)
    (hC2 : (Kd.int .i64).C W A2 xs2.length xs2) (hc2 : xs2.length ≤ c2) (hD2 : (Kd.int .i64).C W B2 ys2.length ys2) (hd2 : ys2.length ≤ d2) (hl : xs.length ≤ 1000) (hm : ys.length ≤ 1000) :
    Calls Try.prog 36 #[.agg #[.slice A xs.length c, .slice B ys.length d], .agg #[.slice A2 xs2.length c2, .slice B2 ys2.length d2]] W fun e w' => e = .returned (.bool (decide (xs = xs2) && decide (ys = ys2))) ∧ Below W.heap.size W w' :=
  backstayref06_Same.calls 2000 A c xs B d ys A2 c2 xs2 B2 d2 ys2 _ W hC hc hD hd hC2 hc2 hD2 hd2 (same_f xs ys xs2 ys2 hl hm)
end Go.Proofs.Ytacmajlbaenjfaa
