/- AsmWords: words, lines and normal texts over lists of bytes. No program. -/
import Derived.Lib.SpaceUEq
import Derived.Lib.DecodeN
import Derived.Lib.TrimUEq
namespace Go.Proofs.Ytfodaegdkcbenaa

def isEnd (c : UInt8) : Bool := c == 10 || c == 59
def isBl (c : UInt8) : Bool := c == 32 || c == 9
/-- What a pending word adds. -/
def pend (cur : List UInt8) : List (List UInt8) := if cur = [] then [] else [cur]
/-- The words of what stands ahead, a word being pending. -/
def wordsA : List UInt8 → List UInt8 → List (List UInt8)
  | cur, [] => pend cur
  | cur, c :: cs => if isEnd c then pend cur else if isBl c then pend cur ++ wordsA [] cs else wordsA (cur ++ [c]) cs
def wordsL (s : List UInt8) : List (List UInt8) := wordsA [] s
theorem wordsA_end {c : UInt8} (cur cs : List UInt8) (h : isEnd c = true) : wordsA cur (c :: cs) = pend cur := by rw [wordsA, if_pos h]
theorem wordsA_bl {c : UInt8} (cur cs : List UInt8) (h : isEnd c = false) (h2 : isBl c = true) : wordsA cur (c :: cs) = pend cur ++ wordsA [] cs := by
  rw [wordsA, if_neg (by rw [h]; decide), if_pos h2]
theorem wordsA_in {c : UInt8} (cur cs : List UInt8) (h : isEnd c = false) (h2 : isBl c = false) : wordsA cur (c :: cs) = wordsA (cur ++ [c]) cs := by
  rw [wordsA, if_neg (by rw [h]; decide), if_neg (by rw [h2]; decide)]
theorem wordsA_skip : ∀ (bs cur r : List UInt8), (∀ b ∈ bs, isEnd b = false ∧ isBl b = false) → wordsA cur (bs ++ r) = wordsA (cur ++ bs) r
  | [], cur, r, _ => by simp
  | b :: bs, cur, r, h => by
    have hb := h b (List.mem_cons_self ..)
    rw [List.cons_append, wordsA_in _ _ hb.1 hb.2, wordsA_skip bs (cur ++ [b]) r (fun x hx => h x (List.mem_cons_of_mem _ hx))]
    simp
/-- Behind a line's end nothing counts. -/
theorem wordsA_cut (c : UInt8) (hc : isEnd c = true) : ∀ (bs cur r : List UInt8), wordsA cur (bs ++ c :: r) = wordsA cur bs
  | [], cur, r => by rw [List.nil_append, wordsA_end _ _ hc, wordsA]
  | b :: bs, cur, r => by
    rw [List.cons_append, wordsA, wordsA, wordsA_cut c hc bs [] r, wordsA_cut c hc bs (cur ++ [b]) r]
theorem wordsL_cut (bs r : List UInt8) : wordsL (bs ++ 10 :: r) = wordsL bs := wordsA_cut 10 (by decide) bs [] r
theorem pend_ne : ∀ (cur : List UInt8), ∀ w ∈ pend cur, w ≠ [] := by
  intro cur w hw
  unfold pend at hw
  split at hw
  · cases hw
  · simp at hw; subst hw; assumption
/-- A non-ASCII byte parts nothing. -/
theorem high_in {c : UInt8} (h : 128 ≤ c.toNat) : isEnd c = false ∧ isBl c = false := by
  have key : ∀ d : UInt8, d.toNat < 128 → (c == d) = false := by
    intro d hd
    rw [beq_eq_false_iff_ne]
    intro e
    subst e
    omega
  unfold isEnd isBl
  rw [key 10 (by decide), key 59 (by decide), key 32 (by decide), key 9 (by decide)]
  exact ⟨rfl, rfl⟩
/-- The bytes of a rune that is not ASCII. -/
theorem rune_high (l : List UInt8) (h : 128 ≤ (l.getD 0 0).toNat) :
    ∀ b ∈ l.take (Lib.decodeN l.length (l.getD 0 0).toNat (l.getD 1 0).toNat (l.getD 2 0).toNat (l.getD 3 0).toNat).2, isEnd b = false ∧ isBl b = false := by
  have hc := Lib.decodeN_conts l.length (l.getD 0 0).toNat (l.getD 1 0).toNat (l.getD 2 0).toNat (l.getD 3 0).toNat
  obtain ⟨c2, c3, c4, c5⟩ := hc
  intro b hb
  obtain ⟨j, hj, rfl⟩ := List.mem_iff_getElem.1 hb
  rw [List.length_take] at hj
  have hjl : j < l.length := by omega
  rw [List.getElem_take]
  have e : l[j] = l.getD j 0 := by rw [List.getD_eq_getElem?_getD, List.getElem?_eq_getElem hjl]; rfl
  rw [e]
  refine high_in ?_
  have hj4 : j = 0 ∨ j = 1 ∨ j = 2 ∨ j = 3 := by omega
  rcases hj4 with rfl | rfl | rfl | rfl
  · exact h
  · have := (c2 (by omega)).1; omega
  · have := (c3 (by omega)).1; omega
  · have := (c4 (by omega)).1; omega

/-! ### lines -/
/-- The lines, each without its end; the last one may be empty. -/
def linesA : List UInt8 → List UInt8 → List (List UInt8)
  | cur, [] => [cur]
  | cur, c :: cs => if c = 10 then cur :: linesA [] cs else linesA (cur ++ [c]) cs
def joinL : List (List UInt8) → List UInt8
  | [] => []
  | [w] => w
  | w :: ws => w ++ [32] ++ joinL ws
/-- One line's part of the normal text. -/
def lineN (l : List UInt8) : List UInt8 := if wordsL l = [] then [] else joinL (wordsL l) ++ [10]
def normA (cur s : List UInt8) : List UInt8 := ((linesA cur s).map lineN).flatten
def normL (s : List UInt8) : List UInt8 := normA [] s
theorem normA_nil (cur : List UInt8) : normA cur [] = lineN cur := by simp [normA, linesA]
theorem normA_end (cur cs : List UInt8) : normA cur (10 :: cs) = lineN cur ++ normL cs := by simp [normA, normL, linesA]
theorem normA_in (cur cs : List UInt8) {c : UInt8} (h : c ≠ 10) : normA cur (c :: cs) = normA (cur ++ [c]) cs := by
  unfold normA
  rw [linesA, if_neg h]
theorem normA_skip : ∀ (bs cur r : List UInt8), (∀ b ∈ bs, b ≠ 10) → normA cur (bs ++ r) = normA (cur ++ bs) r
  | [], cur, r, _ => by simp
  | b :: bs, cur, r, h => by
    rw [List.cons_append, normA_in _ _ (h b (List.mem_cons_self ..)), normA_skip bs (cur ++ [b]) r (fun x hx => h x (List.mem_cons_of_mem _ hx))]
    simp
/-- A whole line ahead. -/
theorem normL_line (bs r : List UInt8) (h : ∀ b ∈ bs, b ≠ 10) : normL (bs ++ 10 :: r) = lineN bs ++ normL r := by
  unfold normL
  rw [normA_skip bs [] _ h, List.nil_append, normA_end]
  rfl
theorem normL_last (bs : List UInt8) (h : ∀ b ∈ bs, b ≠ 10) : normL bs = lineN bs := by
  have := normA_skip bs [] [] h
  rw [List.append_nil, List.nil_append, normA_nil] at this
  exact this
theorem lineN_cut (bs : List UInt8) : lineN (bs ++ [10]) = lineN bs := by unfold lineN; rw [wordsL_cut bs []]
theorem lineN_nil : lineN [] = [] := by decide
theorem joinL_cons (a b : List UInt8) (ws : List (List UInt8)) : joinL (a :: b :: ws) = a ++ [32] ++ joinL (b :: ws) := by rw [joinL]; simp
/-- A join, a word more behind. -/
theorem joinL_snoc : ∀ (ws : List (List UInt8)) (w : List UInt8), ws ≠ [] → joinL (ws ++ [w]) = joinL ws ++ [32] ++ w
  | [], _, h => absurd rfl h
  | [a], w, _ => by simp [joinL]
  | a :: b :: ws, w, _ => by
    have := joinL_snoc (b :: ws) w (by simp)
    rw [List.cons_append, List.cons_append, joinL_cons, joinL_cons, ← List.cons_append, this]
    simp

/-! ### going along a line -/
/-- Behind k bytes of a line ws stand, and cur is pending. -/
def WI (s : List UInt8) (ws : List (List UInt8)) (cur : List UInt8) (k : Nat) : Prop := ws ++ wordsA cur (s.drop k) = wordsL s
theorem WI_start (s : List UInt8) : WI s [] [] 0 := by unfold WI wordsL; simp
theorem WI_over {s : List UInt8} {ws : List (List UInt8)} {cur : List UInt8} {k : Nat} (h : WI s ws cur k) (hk : s.length ≤ k) : ws ++ pend cur = wordsL s := by
  unfold WI at h
  rw [List.drop_eq_nil_of_le hk, wordsA] at h
  exact h
theorem WI_end {s : List UInt8} {ws : List (List UInt8)} {cur : List UInt8} {k : Nat} (h : WI s ws cur k) (hk : k < s.length) (he : isEnd s[k] = true) : ws ++ pend cur = wordsL s := by
  unfold WI at h
  rw [List.drop_eq_getElem_cons hk, wordsA_end _ _ he] at h
  exact h
theorem WI_bl {s : List UInt8} {ws : List (List UInt8)} {cur : List UInt8} {k : Nat} (h : WI s ws cur k) (hk : k < s.length) (he : isEnd s[k] = false) (hb : isBl s[k] = true) : WI s (ws ++ pend cur) [] (k + 1) := by
  unfold WI at h ⊢
  rw [List.drop_eq_getElem_cons hk, wordsA_bl _ _ he hb, ← List.append_assoc] at h
  exact h
theorem WI_in {s : List UInt8} {ws : List (List UInt8)} {cur : List UInt8} {k : Nat} (h : WI s ws cur k) (hk : k < s.length) (he : isEnd s[k] = false) (hb : isBl s[k] = false) : WI s ws (cur ++ [s[k]]) (k + 1) := by
  unfold WI at h ⊢
  rw [List.drop_eq_getElem_cons hk, wordsA_in _ _ he hb] at h
  exact h
theorem WI_skip {s : List UInt8} {ws : List (List UInt8)} {cur : List UInt8} {k d : Nat} (h : WI s ws cur k) (hs : ∀ b ∈ (s.drop k).take d, isEnd b = false ∧ isBl b = false) : WI s ws (cur ++ (s.drop k).take d) (k + d) := by
  unfold WI at h ⊢
  rw [← List.take_append_drop d (s.drop k), wordsA_skip _ _ _ hs, List.drop_drop] at h
  exact h
/-- The bytes from f to k. -/
def sub (s : List UInt8) (f k : Nat) : List UInt8 := (s.drop f).take (k - f)
theorem sub_self (s : List UInt8) (k : Nat) : sub s k k = [] := by simp [sub]
theorem sub_more (s : List UInt8) (f k d : Nat) (h : f ≤ k) : sub s f k ++ (s.drop k).take d = sub s f (k + d) := by
  unfold sub
  rw [show k + d - f = (k - f) + d by omega, List.take_add, List.drop_drop, show f + (k - f) = k by omega]
theorem sub_next (s : List UInt8) (f k : Nat) (h : f ≤ k) (hk : k < s.length) : sub s f k ++ [s[k]] = sub s f (k + 1) := by
  rw [← sub_more s f k 1 h, List.drop_eq_getElem_cons hk]; rfl
theorem sub_ne (s : List UInt8) (f k : Nat) (h : f < k) (hk : k ≤ s.length) : sub s f k ≠ [] := by
  intro e
  have := congrArg List.length e
  simp [sub] at this
  omega
theorem pend_nil : pend [] = [] := rfl
theorem pend_some {cur : List UInt8} (h : cur ≠ []) : pend cur = [cur] := if_neg h
theorem extract_sub (s : ByteArray) (f k : Nat) : (s.extract f k).data.toList = sub s.data.toList f k := by
  rw [ByteArray.data_extract, Array.toList_extract]; rfl
/-- What the program hands about: rows of strings. -/
def strs (ws : List (List UInt8)) : List ByteArray := ws.map fun w => ⟨w.toArray⟩
theorem strs_append (a b : List (List UInt8)) : strs (a ++ b) = strs a ++ strs b := List.map_append
theorem strs_one (w : List UInt8) : strs [w] = [⟨w.toArray⟩] := rfl
theorem strs_length (a : List (List UInt8)) : (strs a).length = a.length := List.length_map ..
theorem ba_ext {a b : ByteArray} (h : a.data.toList = b.data.toList) : a = b := by
  cases a; cases b; congr; exact Array.toList_inj.1 h
theorem extract_eq (s : ByteArray) (f k : Nat) : s.extract f k = ⟨(sub s.data.toList f k).toArray⟩ := ba_ext (by rw [extract_sub])

/-! ### going along a text -/
theorem normL_idx (r : List UInt8) (i : Nat) (hi : i < r.length) (h10 : r[i] = 10) (hb : ∀ b ∈ r.take i, b ≠ 10) : normL r = lineN (r.take (i + 1)) ++ normL (r.drop (i + 1)) := by
  have e : r = r.take i ++ 10 :: r.drop (i + 1) := by
    have := List.take_append_drop i r
    rw [List.drop_eq_getElem_cons hi, h10] at this
    exact this.symm
  have e2 : r.take (i + 1) = r.take i ++ [10] := by rw [List.take_succ_eq_append_getElem hi, h10]
  rw [e2, lineN_cut]
  conv => lhs; rw [e]
  exact normL_line _ _ hb
theorem normL_nil : normL [] = [] := by decide
/-- The lines' words, those of the lines that have any. -/
def wlines (ls : List (List UInt8)) : List (List (List UInt8)) := (ls.map wordsL).filter (fun w => w != [])
def texts (ws : List (List (List UInt8))) : List UInt8 := (ws.map fun w => joinL w ++ [10]).flatten
theorem wlines_append (a b : List (List UInt8)) : wlines (a ++ b) = wlines a ++ wlines b := by simp [wlines]
theorem wlines_one (l : List UInt8) (h : wordsL l ≠ []) : wlines [l] = [wordsL l] := by
  unfold wlines
  rw [List.map_cons, List.map_nil, List.filter_cons, if_pos (by rw [bne_iff_ne]; exact h)]
  rfl
theorem wlines_none (l : List UInt8) (h : wordsL l = []) : wlines [l] = [] := by
  unfold wlines
  rw [List.map_cons, List.map_nil, List.filter_cons, if_neg (by rw [h]; decide)]
  rfl
theorem texts_append (a b : List (List (List UInt8))) : texts (a ++ b) = texts a ++ texts b := by simp [texts]
theorem texts_wlines : ∀ (ls : List (List UInt8)), texts (wlines ls) = (ls.map lineN).flatten
  | [] => rfl
  | l :: ls => by
    have e : wlines (l :: ls) = wlines [l] ++ wlines ls := wlines_append [l] ls
    rw [e, texts_append, texts_wlines ls, List.map_cons, List.flatten_cons]
    congr 1
    unfold lineN
    by_cases h : wordsL l = []
    · rw [wlines_none l h, if_pos h]; rfl
    · rw [wlines_one l h, if_neg h]; simp [texts]
theorem normL_texts (s : List UInt8) : texts (wlines (linesA [] s)) = normL s := texts_wlines _
/-- Behind i bytes of a text the lines ls are done, and the one at hand began at f. -/
def LI (s : List UInt8) (ls : List (List UInt8)) (f i : Nat) : Prop := ls ++ linesA (sub s f i) (s.drop i) = linesA [] s
theorem LI_start (s : List UInt8) : LI s [] 0 0 := by unfold LI; rw [sub_self]; simp
theorem LI_in {s : List UInt8} {ls : List (List UInt8)} {f i : Nat} (h : LI s ls f i) (hf : f ≤ i) (hi : i < s.length) (h10 : s[i] ≠ 10) : LI s ls f (i + 1) := by
  unfold LI at h ⊢
  rw [List.drop_eq_getElem_cons hi, linesA, if_neg h10, sub_next s f i hf hi] at h
  exact h
theorem LI_end {s : List UInt8} {ls : List (List UInt8)} {f i : Nat} (h : LI s ls f i) (hi : i < s.length) (h10 : s[i] = 10) : LI s (ls ++ [sub s f i]) (i + 1) (i + 1) := by
  unfold LI at h ⊢
  rw [List.drop_eq_getElem_cons hi, linesA, if_pos h10] at h
  rw [sub_self, List.append_assoc]
  exact h
theorem LI_over {s : List UInt8} {ls : List (List UInt8)} {f : Nat} (h : LI s ls f s.length) : ls ++ [sub s f s.length] = linesA [] s := by
  unfold LI at h
  rw [List.drop_eq_nil_of_le (Nat.le_refl _), linesA] at h
  exact h
/-- How long all is. -/
theorem wordsA_count : ∀ (s cur : List UInt8), (wordsA cur s).length ≤ s.length + 1
  | [], cur => by rw [wordsA]; unfold pend; split <;> simp
  | c :: cs, cur => by
    have h1 := wordsA_count cs []
    have h2 := wordsA_count cs (cur ++ [c])
    have hp : (pend cur).length ≤ 1 := by unfold pend; split <;> simp
    rw [wordsA]
    split
    · simp; omega
    · split
      · rw [List.length_append]; simp; omega
      · simp; omega
theorem joinL_take_le : ∀ (ws : List (List UInt8)) (j : Nat), (joinL (ws.take j)).length ≤ (joinL ws).length
  | [], j => by simp
  | [a], 0 => by simp [joinL]
  | [a], j + 1 => by simp
  | a :: b :: ws, 0 => by simp [joinL]
  | a :: b :: ws, 1 => by rw [joinL_cons]; simp [joinL]
  | a :: b :: ws, j + 2 => by
    have := joinL_take_le (b :: ws) (j + 1)
    rw [List.take_succ_cons] at this
    rw [List.take_succ_cons, List.take_succ_cons, joinL_cons, joinL_cons]
    simp only [List.length_append]
    omega
end Go.Proofs.Ytfodaegdkcbenaa
