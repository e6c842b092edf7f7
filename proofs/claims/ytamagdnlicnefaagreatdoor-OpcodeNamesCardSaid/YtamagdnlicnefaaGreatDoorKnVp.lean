/- Plain numbers and bytes of the document's first chapter: widths, bytes, what is read of them. No program in sight. -/
namespace Go.Proofs.YtamagdnlicnefaaGreatDoor.VP
def wid (n : Nat) : Nat :=
  if n < 128 then 1 else if n < 16384 then 2 else if n < 2097152 then 3 else if n < 268435456 then 4
  else if n < 34359738368 then 5 else if n < 4398046511104 then 6 else if n < 562949953421312 then 7
  else if n < 72057594037927936 then 8 else 9
def mark (w : Nat) : Nat := 256 - 2 ^ (9 - w)
def be : Nat → Nat → List Nat
  | 0, _ => []
  | k + 1, n => (n / 256 ^ k % 256) :: be k n
def first (n : Nat) : Nat := mark (wid n) + n / 256 ^ (wid n - 1)
def enc (n : Nat) : List Nat := first n :: be (wid n - 1) n
def lead (b : Nat) : Nat :=
  if b < 128 then 1 else if b < 192 then 2 else if b < 224 then 3 else if b < 240 then 4
  else if b < 248 then 5 else if b < 252 then 6 else if b < 254 then 7 else if b < 255 then 8 else 9
def fold (a : Nat) (l : List Nat) : Nat := l.foldl (fun x c => 256 * x + c) a
theorem be_length (k n : Nat) : (be k n).length = k := by induction k <;> simp [be, *]
theorem wid_pos (n : Nat) : 1 ≤ wid n ∧ wid n ≤ 9 := by
  unfold wid
  repeat' split
  all_goals omega
theorem enc_length (n : Nat) : (enc n).length = wid n := by
  have := wid_pos n; simp [enc, be_length]; omega
theorem wid_cases (n : Nat) (h : n < 18446744073709551616) :
    (wid n = 1 ∧ n < 128) ∨ (wid n = 2 ∧ 128 ≤ n ∧ n < 16384) ∨ (wid n = 3 ∧ 16384 ≤ n ∧ n < 2097152) ∨ (wid n = 4 ∧ 2097152 ≤ n ∧ n < 268435456)
    ∨ (wid n = 5 ∧ 268435456 ≤ n ∧ n < 34359738368) ∨ (wid n = 6 ∧ 34359738368 ≤ n ∧ n < 4398046511104) ∨ (wid n = 7 ∧ 4398046511104 ≤ n ∧ n < 562949953421312)
    ∨ (wid n = 8 ∧ 562949953421312 ≤ n ∧ n < 72057594037927936) ∨ (wid n = 9 ∧ 72057594037927936 ≤ n) := by
  unfold wid
  repeat' split
  all_goals omega
theorem first_cases (n : Nat) (h : n < 18446744073709551616) :
    mark (wid n) ≤ first n ∧ first n < 256 ∧ (wid n < 9 → first n < mark (wid n + 1)) ∧ first n - mark (wid n) = n / 256 ^ (wid n - 1) ∧ (n / 256 ^ (wid n - 1)) < 256 := by
  unfold first
  rcases wid_cases n h with ⟨e, h1⟩ | ⟨e, h1, h2⟩ | ⟨e, h1, h2⟩ | ⟨e, h1, h2⟩ | ⟨e, h1, h2⟩ | ⟨e, h1, h2⟩ | ⟨e, h1, h2⟩ | ⟨e, h1, h2⟩ | ⟨e, h1⟩ <;>
  (rw [e]; simp only [mark, Nat.reduceSub, Nat.reducePow, Nat.reduceAdd, Nat.pow_zero, Nat.div_one]; omega)
theorem mark_lead (b : Nat) (h : b < 256) : mark (lead b) ≤ b ∧ (lead b < 9 → b < mark (lead b + 1)) ∧ 1 ≤ lead b ∧ lead b ≤ 9 := by
  unfold lead
  repeat' split
  all_goals (simp only [mark, Nat.reduceSub, Nat.reducePow, Nat.reduceAdd, Nat.reduceLT, forall_const, false_implies, true_and, Nat.lt_irrefl]; omega)
theorem be_get (k n : Nat) : ∀ i, i < k → (be k n)[i]? = some (n / 256 ^ (k - 1 - i) % 256) := by
  induction k with
  | zero => intro i h; omega
  | succ k ih =>
    intro i h
    cases i with
    | zero => simp [be]
    | succ i =>
      simp only [be, List.getElem?_cons_succ]
      rw [ih i (by omega)]
      congr 4
      omega
theorem enc_get0 (n d : Nat) (hd : wid n = d + 1) : (enc n)[0]? = some (mark (d + 1) + n / 256 ^ d) := by
  simp [enc, first, hd]
theorem enc_get (n d j k : Nat) (hd : wid n = d + 1) (hj : 0 < j) (hk : j + k = d) : (enc n)[j]? = some (n / 256 ^ k % 256) := by
  obtain ⟨i, rfl⟩ : ∃ i, j = i + 1 := ⟨j - 1, by omega⟩
  simp only [enc, List.getElem?_cons_succ, hd, Nat.add_sub_cancel]
  rw [be_get _ _ _ (by omega)]
  congr 4
  omega
theorem top_lt (n d : Nat) (hn : n < 18446744073709551616) (hd : wid n = d + 1) (h8 : d < 8) : n / 256 ^ d < 2 ^ (7 - d) := by
  obtain ⟨a, b, c, e, f⟩ := first_cases n hn
  rw [hd] at *
  have c := c (by omega)
  rw [Nat.add_sub_cancel] at e f
  rw [← e]
  have : d = 0 ∨ d = 1 ∨ d = 2 ∨ d = 3 ∨ d = 4 ∨ d = 5 ∨ d = 6 ∨ d = 7 := by omega
  rcases this with rfl | rfl | rfl | rfl | rfl | rfl | rfl | rfl <;> (simp only [mark, Nat.reduceSub, Nat.reducePow, Nat.reduceAdd] at *; omega)
theorem top_zero (n : Nat) (hn : n < 18446744073709551616) : n / 256 ^ 8 = 0 := by
  rw [Nat.div_eq_zero_iff]; right; simpa using hn
end Go.Proofs.YtamagdnlicnefaaGreatDoor.VP
