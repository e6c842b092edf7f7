/- AsmWords: what the document's Words answers, in lists of bytes. -/
import Derived.Test.YtfodaegdkcbenaaPRef1
import Derived.Test.YtfodaegdkcbenaaPa
import Derived.Laws.Strings
namespace Go.Proofs.Ytfodaegdkcbenaa
open Go.RowKit Go.Proofs.YtfodaegdkcbenaaW.PrintWords Go.Proofs.YtfodaegdkcbenaaW.PrintLast Go.Proofs.YtfodaegdkcbenaaW.PrintMore
open Go.Proofs.Ytfodaegdkcbenaa.PRef
theorem wrapN {x : Int} (h0 : 0 ≤ x) (h1 : x < 1000000000) : wrap64 x = x := by unfold wrap64; omega
theorem bt_S {s : ByteArray} {S : List UInt8} (hS : s.data.toList = S) (k : Nat) (h : k < S.length) : bt s (k : Int) = ((S[k]'h).toNat : Int) := by
  subst hS
  have h2 : ((k : Int)).toNat < s.size := by simpa using h
  unfold bt
  rw [dif_pos h2]
  rfl
theorem key_nat (x d : UInt8) : (x == d) = decide (x.toNat = d.toNat) := by
  rw [Bool.eq_iff_iff, beq_iff_eq, decide_eq_true_iff]
  exact ⟨fun h => by rw [h], fun h => UInt8.toNat_inj.1 h⟩
theorem isEnd_nat (x : UInt8) : isEnd x = (decide (x.toNat = 10) || decide (x.toNat = 59)) := by unfold isEnd; rw [key_nat, key_nat]; rfl
theorem isBl_nat (x : UInt8) : isBl x = (decide (x.toNat = 32) || decide (x.toNat = 9)) := by unfold isBl; rw [key_nat, key_nat]; rfl
/-- The end of a word, if there is one. -/
theorem put_pend (ws : List (List UInt8)) (cur : List UInt8) (hw : ws.length ≤ 1000001) {β : Type} (F : List ByteArray → Option β) :
    (if (⟨cur.toArray⟩ : ByteArray).toList = ([] : List UInt8) then F (strs ws) else (if (strs ws).length < 8796093022208 then F (strs ws ++ [⟨cur.toArray⟩]) else none)) = F (strs (ws ++ pend cur)) := by
  rw [ByteArray.toList_mk]
  by_cases h : cur = []
  · rw [if_pos h, h, pend_nil, List.append_nil]
  · rw [if_neg h, if_pos (by rw [strs_length]; omega), pend_some h, strs_append, strs_one]
theorem words_l0 (s : ByteArray) (S : List UInt8) (hS : s.data.toList = S) (hs : s.size ≤ 1000000) : ∀ (n k : Nat) (ws : List (List UInt8)) (cur : List UInt8), k + n = s.size → cur.length ≤ k → ws.length ≤ k → WI S ws cur k →
    backstayref09_Words.l0 (3 * n + 1) s (strs ws) ⟨cur.toArray⟩ (k : Int) = some (strs (wordsL S))
  | 0, k, ws, cur, hk, hc, hw, h => by
    have hl : S.length = s.size := by rw [← hS]; simp
    have e := WI_over h (by omega)
    rw [show 3 * 0 + 1 = 0 + 1 from rfl, backstayref09_Words.l0, if_neg (by omega)]
    have hp := put_pend ws cur (by omega) (fun x => some x)
    rw [e] at hp
    exact hp
  | n + 1, k, ws, cur, hk, hc, hw, h => by
    have hl : S.length = s.size := by rw [← hS]; simp
    have hkS : k < S.length := by omega
    have hb := bt_S hS k hkS
    have hw1 : wrap64 ((k : Int) + 1) = ((k + 1 : Nat) : Int) := by rw [wrapN (by omega) (by omega)]; omega
    have hpn := fun (F : List ByteArray → Option (List ByteArray)) => put_pend ws cur (by omega) F
    rw [show 3 * (n + 1) + 1 = (3 * n + 1 + 1 + 1) + 1 by omega, backstayref09_Words.l0, if_pos (by omega), if_pos (by omega), hb]
    have hj : (if (((S[k]'hkS).toNat : Int)) = 10 then backstayref09_Words.j1 (3 * n + 1 + 1 + 1) s (strs ws) ⟨cur.toArray⟩ k ((S[k]'hkS).toNat : Int) true else backstayref09_Words.j1 (3 * n + 1 + 1 + 1) s (strs ws) ⟨cur.toArray⟩ k ((S[k]'hkS).toNat : Int) (((S[k]'hkS).toNat : Int) == 59)) = backstayref09_Words.j1 (3 * n + 1 + 1 + 1) s (strs ws) ⟨cur.toArray⟩ k ((S[k]'hkS).toNat : Int) (isEnd (S[k]'hkS)) := by
      rw [isEnd_nat]
      by_cases h1 : (S[k]'hkS).toNat = 10
      · rw [if_pos (by omega), decide_eq_true h1]; rfl
      · rw [if_neg (by omega), decide_eq_false h1, Bool.false_or]
        congr 1
        by_cases h2 : (S[k]'hkS).toNat = 59
        · rw [decide_eq_true h2, h2]; rfl
        · rw [decide_eq_false h2, beq_eq_false_iff_ne]; omega
    rw [hj, backstayref09_Words.j1]
    cases he : isEnd (S[k]'hkS)
    · rw [if_neg (by decide)]
      have hj2 : (if (((S[k]'hkS).toNat : Int)) = 32 then backstayref09_Words.j2 (3 * n + 1 + 1) s (strs ws) ⟨cur.toArray⟩ k false else backstayref09_Words.j2 (3 * n + 1 + 1) s (strs ws) ⟨cur.toArray⟩ k (((S[k]'hkS).toNat : Int) != 9)) = backstayref09_Words.j2 (3 * n + 1 + 1) s (strs ws) ⟨cur.toArray⟩ k (! isBl (S[k]'hkS)) := by
        rw [isBl_nat]
        by_cases h1 : (S[k]'hkS).toNat = 32
        · rw [if_pos (by omega), decide_eq_true h1]; rfl
        · rw [if_neg (by omega), decide_eq_false h1, Bool.false_or]
          congr 1
          by_cases h2 : (S[k]'hkS).toNat = 9
          · rw [decide_eq_true h2, h2]; rfl
          · rw [decide_eq_false h2]
            have : (((S[k]'hkS).toNat : Int) == 9) = false := by rw [beq_eq_false_iff_ne]; omega
            unfold bne
            rw [this]
      rw [hj2, backstayref09_Words.j2, hw1]
      cases hbl : isBl (S[k]'hkS)
      · have e1 : s.extract ((k : Int)).toNat (((k + 1 : Nat) : Int)).toNat = ⟨[S[k]'hkS].toArray⟩ := by
          rw [Int.toNat_natCast, Int.toNat_natCast, extract_eq, hS, ← sub_next S k k (Nat.le_refl _) hkS, sub_self]; rfl
        have e2 : (⟨cur.toArray⟩ : ByteArray) ++ ⟨[S[k]'hkS].toArray⟩ = ⟨(cur ++ [S[k]'hkS]).toArray⟩ := ba_ext (by rw [ByteArray.data_append, Array.toList_append])
        have e3 : (⟨cur.toArray⟩ : ByteArray).size = cur.length := rfl
        have e4 : (⟨[S[k]'hkS].toArray⟩ : ByteArray).size = 1 := rfl
        rw [if_pos (by rfl), if_pos (by omega), if_pos (by omega), if_pos (by omega), e1, e2, e3, e4, if_pos (by omega)]
        exact words_l0 s S hS hs n (k + 1) ws (cur ++ [S[k]'hkS]) (by omega) (by rw [List.length_append]; simp; omega) (by omega) (WI_in h hkS he hbl)
      · rw [if_neg (by decide), hpn (fun x => backstayref09_Words.l0 (3 * n + 1) s x ⟨#[]⟩ ((k + 1 : Nat) : Int))]
        refine words_l0 s S hS hs n (k + 1) (ws ++ pend cur) [] (by omega) (by simp) ?_ (WI_bl h hkS he hbl)
        rw [List.length_append]
        unfold pend
        split <;> simp <;> omega
    · rw [if_pos rfl]
      have e := WI_end h hkS he
      have hp := hpn (fun x => some x)
      rw [e] at hp
      exact hp
theorem words_f (s : ByteArray) (hs : s.size ≤ 1000000) : backstayref09_Words.f (3 * s.size + 1) s = some (strs (wordsL s.data.toList)) := by
  unfold backstayref09_Words.f
  exact words_l0 s _ rfl hs s.size 0 [] [] (by omega) (by simp) (by simp) (WI_start _)
end Go.Proofs.Ytfodaegdkcbenaa
