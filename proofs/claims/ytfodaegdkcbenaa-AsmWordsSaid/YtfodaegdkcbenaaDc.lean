/- AsmWords: sizes; the document's joined and Texts, whole. -/
import Derived.Test.YtfodaegdkcbenaaDb
namespace Go.Proofs.Ytfodaegdkcbenaa
open Go.RowKit Go.Proofs.YtfodaegdkcbenaaW.PrintWords Go.Proofs.YtfodaegdkcbenaaW.PrintLast Go.Proofs.YtfodaegdkcbenaaW.PrintMore
open Go.Proofs.Ytfodaegdkcbenaa.PRef
theorem joinL_head (w : List UInt8) (ws : List (List UInt8)) : (joinL (w :: ws)).length ≤ w.length + 1 + (joinL ws).length := by
  cases ws with
  | nil => simp [joinL]
  | cons a ws => rw [joinL_cons]; simp; omega
theorem joinL_words : ∀ (s cur : List UInt8), (joinL (wordsA cur s)).length ≤ cur.length + s.length
  | [], cur => by
    rw [wordsA]
    by_cases h : cur = []
    · rw [h]; simp [pend, joinL]
    · rw [pend_some h]; simp [joinL]
  | c :: cs, cur => by
    have h1 := joinL_words cs []
    have h2 := joinL_words cs (cur ++ [c])
    rw [List.length_append] at h2
    simp only [List.length_cons, List.length_nil] at h1 h2 ⊢
    rw [wordsA]
    split
    · by_cases h : cur = []
      · rw [h]; simp [pend, joinL]
      · rw [pend_some h]; simp [joinL]
    · split
      · by_cases h : cur = []
        · rw [h, pend_nil, List.nil_append]; omega
        · rw [pend_some h]
          have := joinL_head cur (wordsA [] cs)
          rw [List.singleton_append]
          omega
      · omega
theorem lineN_len (l : List UInt8) : (lineN l).length ≤ l.length + 1 := by
  unfold lineN
  split
  · simp
  · have := joinL_words l []
    rw [List.length_append]
    unfold wordsL
    simp at this ⊢
    omega
theorem normA_len : ∀ (s cur : List UInt8), (normA cur s).length ≤ cur.length + s.length + 1
  | [], cur => by rw [normA_nil]; have := lineN_len cur; simp; omega
  | c :: cs, cur => by
    by_cases h : c = 10
    · subst h
      have h1 := lineN_len cur
      have h2 := normA_len cs []
      rw [normA_end]
      unfold normL
      simp at h2 ⊢
      omega
    · have h2 := normA_len cs (cur ++ [c])
      rw [normA_in _ _ h]
      simp at h2 ⊢
      omega
theorem joined_f (ws : List (List UInt8)) (hl : ws.length ≤ 1000001) (hb : (joinL ws).length ≤ 10000000) : backstayref09_joined.f (ws.length + 1) (strs ws) = some ⟨(joinL ws).toArray⟩ := by
  unfold backstayref09_joined.f
  have h := joined_l0 ws hl hb ws.length 0 (by omega)
  simpa [joinL] using h
theorem texts_l0 (xs : List ByteArray) (hl : xs.length ≤ 1000001) : ∀ (n i : Nat), i + n = xs.length → backstayref09_Texts.l0 (n + 1) xs xs (i : Int) = some true
  | 0, i, hk => by rw [backstayref09_Texts.l0, if_neg (by omega)]
  | n + 1, i, hk => by
    have hw1 : wrap64 ((i : Int) + 1) = ((i + 1 : Nat) : Int) := by rw [wrapN (by omega) (by omega)]; omega
    rw [backstayref09_Texts.l0, if_pos (by omega), if_pos (by omega), if_pos (by omega), if_pos rfl, hw1]
    exact texts_l0 xs hl n (i + 1) (by omega)
theorem texts_f (xs : List ByteArray) (hl : xs.length ≤ 1000001) : backstayref09_Texts.f (xs.length + 1) xs xs = some true := by
  unfold backstayref09_Texts.f
  rw [if_pos rfl]
  exact texts_l0 xs hl xs.length 0 (by omega)
end Go.Proofs.Ytfodaegdkcbenaa
