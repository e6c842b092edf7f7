/- AsmWords: what the document's Lines answers, in lists of bytes. -/
import Derived.Test.YtfodaegdkcbenaaDa
namespace Go.Proofs.Ytfodaegdkcbenaa
open Go.RowKit Go.Proofs.YtfodaegdkcbenaaW.PrintWords Go.Proofs.YtfodaegdkcbenaaW.PrintLast Go.Proofs.YtfodaegdkcbenaaW.PrintMore
open Go.Proofs.Ytfodaegdkcbenaa.PRef
theorem up {α : Type} {g : Nat → Option α} (hm : ∀ k, LeO (g k) (g (k + 1))) {r : α} {k : Nat} (h : g k = some r) : ∀ d, g (k + d) = some r
  | 0 => h
  | d + 1 => hm _ _ (up hm h d)
theorem up_to {α : Type} {g : Nat → Option α} (hm : ∀ k, LeO (g k) (g (k + 1))) {r : α} {k K : Nat} (h : g k = some r) (hk : k ≤ K) : g K = some r := by
  obtain ⟨d, rfl⟩ := Nat.exists_eq_add_of_le hk
  exact up hm h d
def putLine (S : List UInt8) (f i : Nat) (N : Int) : List S44 := if wordsL (sub S f i) = [] then [] else [⟨N + 1, strs (wordsL (sub S f i))⟩]
theorem putLine_map (S : List UInt8) (f i : Nat) (N : Int) : (putLine S f i N).map S44.f1 = (wlines [sub S f i]).map strs := by
  unfold putLine
  by_cases h : wordsL (sub S f i) = []
  · rw [if_pos h, wlines_none _ h]; rfl
  · rw [if_neg h, wlines_one _ h]; rfl
theorem putLine_len (S : List UInt8) (f i : Nat) (N : Int) : (putLine S f i N).length ≤ 1 := by unfold putLine; split <;> simp
theorem extract_size (s : ByteArray) (f i : Nat) : (s.extract f i).size ≤ s.size := by
  have h := extract_sub s f i
  have := congrArg List.length h
  simp [sub] at this
  simp only [ByteArray.size_extract]
  omega
theorem lines_put (s : ByteArray) (S : List UInt8) (hS : s.data.toList = S) (hs : s.size ≤ 1000000) (K : Nat) (hK : 3 * s.size + 1 ≤ K) (wl : List S44) (f i : Nat) (N : Int) (hf : f ≤ i) (hi : i ≤ s.size) (hN0 : 0 ≤ N) (hN1 : N ≤ i) (hw : wl.length ≤ 1000000) :
    backstayref09_Lines.j1 (K + 1) s wl (f : Int) N (i : Int) false = backstayref09_Lines.l0 K s (wl ++ putLine S f i N) ((i + 1 : Nat) : Int) (N + 1) ((i + 1 : Nat) : Int) := by
  have hw1 : wrap64 ((i : Int) + 1) = ((i + 1 : Nat) : Int) := by rw [wrapN (by omega) (by omega)]; omega
  have hw2 : wrap64 (N + 1) = N + 1 := wrapN (by omega) (by omega)
  have hwf : backstayref09_Words.f K (s.extract f i) = some (strs (wordsL (sub S f i))) := by
    have h := words_f (s.extract f i) (by have := extract_size s f i; omega)
    rw [extract_sub, hS] at h
    exact up_to (g := fun k => backstayref09_Words.f k (s.extract f i)) (fun k => backstayref09_Words.mono _ k) h (by have := extract_size s f i; omega)
  rw [backstayref09_Lines.j1, if_neg (by decide), if_pos (by omega), if_pos (by omega), if_pos (by omega), Int.toNat_natCast, Int.toNat_natCast, hwf, hw1, hw2, Option.bind_some]
  unfold putLine
  by_cases h : wordsL (sub S f i) = []
  · rw [if_pos h, h, if_neg (by decide), List.append_nil]
  · have hpos : 0 < (wordsL (sub S f i)).length := List.length_pos_iff.2 h
    rw [if_neg h, if_pos (by rw [strs_length]; omega), if_pos (by omega)]
theorem lines_l0 (s : ByteArray) (S : List UInt8) (hS : s.data.toList = S) (hs : s.size ≤ 1000000) : ∀ (n i f : Nat) (ls : List (List UInt8)) (wl : List S44) (N : Int), i + n = s.size → f ≤ i → 0 ≤ N → N ≤ i → wl.length ≤ i → LI S ls f i → wl.map S44.f1 = (wlines ls).map strs →
    ∃ r, backstayref09_Lines.l0 (2 * n + 3 * s.size + 4) s wl (f : Int) N (i : Int) = some r ∧ r.map S44.f1 = (wlines (linesA [] S)).map strs
  | 0, i, f, ls, wl, N, hk, hf, hN0, hN1, hwl, h, hm => by
    have hl : S.length = s.size := by rw [← hS]; simp
    obtain rfl : i = S.length := by omega
    refine ⟨wl ++ putLine S f S.length N, ?_, ?_⟩
    · rw [show 2 * 0 + 3 * s.size + 4 = (3 * s.size + 2 + 1) + 1 by omega, backstayref09_Lines.l0, if_pos (by omega), if_neg (by omega), lines_put s S hS hs _ (by omega) wl f _ N hf (by omega) hN0 hN1 (by omega), show 3 * s.size + 2 = (3 * s.size + 1) + 1 by omega, backstayref09_Lines.l0, if_neg (by omega)]
    · rw [List.map_append, hm, putLine_map, ← List.map_append, ← wlines_append, LI_over h]
  | n + 1, i, f, ls, wl, N, hk, hf, hN0, hN1, hwl, h, hm => by
    have hl : S.length = s.size := by rw [← hS]; simp
    have hiS : i < S.length := by omega
    have hb := bt_S hS i hiS
    have hw1 : wrap64 ((i : Int) + 1) = ((i + 1 : Nat) : Int) := by rw [wrapN (by omega) (by omega)]; omega
    rw [show 2 * (n + 1) + 3 * s.size + 4 = (2 * n + 3 * s.size + 4 + 1) + 1 by omega, backstayref09_Lines.l0, if_pos (by omega), if_pos (by omega), if_pos (by omega), hb]
    by_cases h10 : S[i]'hiS = 10
    · have e : (((S[i]'hiS).toNat : Int) != 10) = false := by rw [h10]; rfl
      rw [e, lines_put s S hS hs _ (by omega) wl f i N hf (by omega) hN0 hN1 (by omega)]
      refine lines_l0 s S hS hs n (i + 1) (i + 1) (ls ++ [sub S f i]) _ (N + 1) (by omega) (Nat.le_refl _) (by omega) (by omega) ?_ (LI_end h hiS h10) ?_
      · have := putLine_len S f i N; rw [List.length_append]; omega
      · rw [List.map_append, hm, putLine_map, ← List.map_append, ← wlines_append]
    · have hne : (S[i]'hiS).toNat ≠ 10 := fun e => h10 (UInt8.toNat_inj.1 e)
      have e : (((S[i]'hiS).toNat : Int) != 10) = true := by
        have : (((S[i]'hiS).toNat : Int) == 10) = false := by rw [beq_eq_false_iff_ne]; omega
        unfold bne; rw [this]; rfl
      rw [e, backstayref09_Lines.j1, if_pos rfl, hw1]
      exact lines_l0 s S hS hs n (i + 1) f ls wl N (by omega) (by omega) hN0 (by omega) (by omega) (LI_in h hf hiS h10) hm
theorem lines_f (s : ByteArray) (hs : s.size ≤ 1000000) : ∃ r, backstayref09_Lines.f (5 * s.size + 4) s = some r ∧ r.map S44.f1 = (wlines (linesA [] s.data.toList)).map strs := by
  unfold backstayref09_Lines.f
  have h := lines_l0 s _ rfl hs s.size 0 0 [] [] 0 (by omega) (Nat.le_refl _) (by omega) (by omega) (by simp) (LI_start _) rfl
  rw [show 5 * s.size + 4 = 2 * s.size + 3 * s.size + 4 by omega]
  exact h

/-! ### joined -/
theorem joined_l0 (ws : List (List UInt8)) (hl : ws.length ≤ 1000001) (hb : (joinL ws).length ≤ 10000000) : ∀ (n i : Nat), i + n = ws.length → backstayref09_joined.l0 (n + 1) (strs ws) ⟨(joinL (ws.take i)).toArray⟩ (i : Int) = some ⟨(joinL ws).toArray⟩
  | 0, i, hk => by
    rw [backstayref09_joined.l0, if_neg (by rw [strs_length]; omega), List.take_of_length_le (by omega)]
  | n + 1, i, hk => by
    have hi : i < ws.length := by omega
    have hw1 : wrap64 ((i : Int) + 1) = ((i + 1 : Nat) : Int) := by rw [wrapN (by omega) (by omega)]; omega
    have hrd : rdOf ByteArray.empty (strs ws) (i : Int) = ⟨(ws[i]'hi).toArray⟩ := by
      unfold rdOf strs
      rw [Int.toNat_natCast, List.getD_eq_getElem?_getD, List.getElem?_map, List.getElem?_eq_getElem hi]; rfl
    have htk : ws.take (i + 1) = ws.take i ++ [ws[i]'hi] := List.take_succ_eq_append_getElem hi
    have hle : ∀ j, j ≤ ws.length → (joinL (ws.take j)).length ≤ 10000000 := by
      intro j hj
      refine Nat.le_trans ?_ hb
      exact joinL_take_le ws j
    have h1 := hle i (by omega)
    have h2 := hle (i + 1) (by omega)
    have hwi : (ws[i]'hi).length ≤ 10000000 := by
      have := hle (i + 1) (by omega)
      rw [htk] at this
      by_cases h0 : ws.take i = []
      · rw [h0] at this; simpa [joinL] using this
      · rw [joinL_snoc _ _ h0] at this; simp at this; omega
    rw [backstayref09_joined.l0, if_pos (by rw [strs_length]; omega), hrd, hw1]
    have ih := joined_l0 ws hl hb n (i + 1) (by omega)
    rw [htk] at ih
    have es : ∀ l : List UInt8, (⟨l.toArray⟩ : ByteArray).size = l.length := fun l => rfl
    have ea : ∀ a b : List UInt8, (⟨a.toArray⟩ : ByteArray) ++ ⟨b.toArray⟩ = ⟨(a ++ b).toArray⟩ := fun a b => ba_ext (by rw [ByteArray.data_append, Array.toList_append])
    by_cases h0 : i = 0
    · subst h0
      have e0 : (⟨(joinL (ws.take 0)).toArray⟩ : ByteArray) = ⟨([] : List UInt8).toArray⟩ := rfl
      rw [if_neg (by omega), if_pos (by omega), e0, es, es, if_pos (by simp; omega), ea]
      simpa [joinL] using ih
    · have hne : ws.take i ≠ [] := by
        intro e
        have := congrArg List.length e
        rw [List.length_take, List.length_nil] at this
        omega
      have e32 : (⟨#[32]⟩ : ByteArray) = ⟨([32] : List UInt8).toArray⟩ := rfl
      rw [if_pos (by omega), es, if_pos (by omega), if_pos (by omega), e32, ea, es, es, if_pos (by rw [List.length_append]; simp; omega), ea]
      rw [joinL_snoc _ _ hne] at ih
      exact ih
end Go.Proofs.Ytfodaegdkcbenaa
