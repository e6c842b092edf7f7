/- AsmWords: the pieces that strings.Lines yields, over lists of bytes. No program. -/
import Derived.Test.YtfodaegdkcbenaaPa
namespace Go.Proofs.Ytfodaegdkcbenaa
/-- The lines, each with its end; nothing behind the last end is no line. -/
def piecesA : List UInt8 → List UInt8 → List (List UInt8)
  | cur, [] => pend cur
  | cur, c :: cs => if c = 10 then (cur ++ [10]) :: piecesA [] cs else piecesA (cur ++ [c]) cs
def pieces (s : List UInt8) : List (List UInt8) := piecesA [] s
theorem pieces_nil : pieces [] = [] := rfl
theorem piecesA_skip : ∀ (bs cur r : List UInt8), (∀ b ∈ bs, b ≠ 10) → piecesA cur (bs ++ r) = piecesA (cur ++ bs) r
  | [], cur, r, _ => by simp
  | b :: bs, cur, r, h => by
    rw [List.cons_append, piecesA, if_neg (h b (List.mem_cons_self ..)), piecesA_skip bs (cur ++ [b]) r (fun x hx => h x (List.mem_cons_of_mem _ hx))]
    simp
theorem pieces_idx (r : List UInt8) (i : Nat) (hi : i < r.length) (h10 : r[i] = 10) (hb : ∀ b ∈ r.take i, b ≠ 10) : pieces r = r.take (i + 1) :: pieces (r.drop (i + 1)) := by
  have e : r = r.take i ++ 10 :: r.drop (i + 1) := by
    have := List.take_append_drop i r
    rw [List.drop_eq_getElem_cons hi, h10] at this
    exact this.symm
  have e2 : r.take (i + 1) = r.take i ++ [10] := by rw [List.take_succ_eq_append_getElem hi, h10]
  rw [e2]
  unfold pieces
  conv => lhs; rw [e]
  rw [piecesA_skip _ _ _ hb, piecesA, if_pos rfl]
  rfl
theorem pieces_last (r : List UInt8) (hne : r ≠ []) (hb : ∀ b ∈ r, b ≠ 10) : pieces r = [r] := by
  have h := piecesA_skip r [] [] hb
  rw [List.append_nil, List.nil_append] at h
  unfold pieces
  rw [h, piecesA, pend_some hne]
theorem norm_piecesA : ∀ (s cur : List UInt8), normA cur s = ((piecesA cur s).map lineN).flatten
  | [], cur => by
    rw [normA_nil, piecesA]
    by_cases h : cur = []
    · rw [h, pend_nil, lineN_nil]; rfl
    · rw [pend_some h]; simp
  | c :: cs, cur => by
    by_cases h : c = 10
    · subst h
      rw [normA_end, piecesA, if_pos rfl, List.map_cons, List.flatten_cons, lineN_cut]
      unfold normL
      rw [norm_piecesA cs []]
    · rw [normA_in _ _ h, piecesA, if_neg h, norm_piecesA cs (cur ++ [c])]
/-- The normal text is that of the pieces' words. -/
theorem norm_pieces (s : List UInt8) : texts (wlines (pieces s)) = normL s := by
  rw [texts_wlines]
  exact (norm_piecesA s []).symm
end Go.Proofs.Ytfodaegdkcbenaa
