/- Numbers stand in order as their bytes do: plain lists, no program in sight. -/
import Derived.Test.YtpiainanlmpieaaVp
namespace Go.Proofs.Ytpiainanlmpieaa.VP

def lessN : List Nat → List Nat → Bool
  | _, [] => false
  | [], _ :: _ => true
  | a :: x, b :: y => decide (a < b) || (a == b && lessN x y)

theorem less_be (k : Nat) : ∀ a b : Nat, lessN (be k a) (be k b) = decide (a % 256 ^ k < b % 256 ^ k) := by
  induction k with
  | zero => intro a b; simp [be, lessN, Nat.mod_one]
  | succ k ih =>
    intro a b
    simp only [be, lessN, ih]
    have ha : a % 256 ^ (k + 1) = a % 256 ^ k + 256 ^ k * (a / 256 ^ k % 256) := by rw [Nat.pow_succ, Nat.mod_mul]
    have hb : b % 256 ^ (k + 1) = b % 256 ^ k + 256 ^ k * (b / 256 ^ k % 256) := by rw [Nat.pow_succ, Nat.mod_mul]
    have hp : 0 < 256 ^ k := Nat.pow_pos (by omega)
    have la : a % 256 ^ k < 256 ^ k := Nat.mod_lt _ hp
    have lb : b % 256 ^ k < 256 ^ k := Nat.mod_lt _ hp
    rw [ha, hb]
    generalize a / 256 ^ k % 256 = p
    generalize b / 256 ^ k % 256 = q
    generalize a % 256 ^ k = r at *
    generalize b % 256 ^ k = s at *
    generalize 256 ^ k = M at *
    rcases Nat.lt_trichotomy p q with h | h | h
    · have : r + M * p < s + M * q := by
        have := Nat.mul_le_mul_left M (show p + 1 ≤ q from h)
        rw [Nat.mul_add, Nat.mul_one] at this
        omega
      simp [h, this]
    · subst h; simp
    · have h2 : ¬ r + M * p < s + M * q := by
        have := Nat.mul_le_mul_left M (show q + 1 ≤ p from h)
        rw [Nat.mul_add, Nat.mul_one] at this
        omega
      have h1 : ¬ p < q := by omega
      have h3 : (p == q) = false := by simp; omega
      simp [h1, h2, h3]

theorem mark_mono {v w : Nat} (h : v ≤ w) : mark v ≤ mark w := by
  unfold mark
  have := Nat.pow_le_pow_right (show 0 < 2 by omega) (show 9 - w ≤ 9 - v by omega)
  omega

def st (T n : Nat) : Nat := if T ≤ n then 1 else 0
theorem st_mono (T : Nat) {a b : Nat} (h : a ≤ b) : st T a ≤ st T b := by unfold st; split <;> split <;> omega
theorem wid_sum (n : Nat) : wid n = 1 + st 128 n + st 16384 n + st 2097152 n + st 268435456 n + st 34359738368 n + st 4398046511104 n + st 562949953421312 n + st 72057594037927936 n := by
  have k : ∀ T, st T n = if n < T then 0 else 1 := fun T => by unfold st; split <;> split <;> omega
  simp only [k]
  unfold wid
  by_cases h8 : n < 72057594037927936
  · by_cases h7 : n < 562949953421312
    · by_cases h6 : n < 4398046511104
      · by_cases h5 : n < 34359738368
        · by_cases h4 : n < 268435456
          · by_cases h3 : n < 2097152
            · by_cases h2 : n < 16384
              · by_cases h1 : n < 128
                · simp only [h1, h2, h3, h4, h5, h6, h7, h8, if_true]
                · simp only [h1, h2, h3, h4, h5, h6, h7, h8, if_true, if_false]
              · rw [if_neg (by omega : ¬ n < 128), if_neg (by omega : ¬ n < 128)]; simp only [h2, h3, h4, h5, h6, h7, h8, if_true, if_false]
            · rw [if_neg (by omega : ¬ n < 128), if_neg (by omega : ¬ n < 128), if_neg (by omega : ¬ n < 16384), if_neg (by omega : ¬ n < 16384)]; simp only [h3, h4, h5, h6, h7, h8, if_true, if_false]
          · have a1 : ¬ n < 128 := by omega
            have a2 : ¬ n < 16384 := by omega
            have a3 : ¬ n < 2097152 := by omega
            simp only [a1, a2, a3, h4, h5, h6, h7, h8, if_true, if_false]
        · have a1 : ¬ n < 128 := by omega
          have a2 : ¬ n < 16384 := by omega
          have a3 : ¬ n < 2097152 := by omega
          have a4 : ¬ n < 268435456 := by omega
          simp only [a1, a2, a3, a4, h5, h6, h7, h8, if_true, if_false]
      · have a1 : ¬ n < 128 := by omega
        have a2 : ¬ n < 16384 := by omega
        have a3 : ¬ n < 2097152 := by omega
        have a4 : ¬ n < 268435456 := by omega
        have a5 : ¬ n < 34359738368 := by omega
        simp only [a1, a2, a3, a4, a5, h6, h7, h8, if_true, if_false]
    · have a1 : ¬ n < 128 := by omega
      have a2 : ¬ n < 16384 := by omega
      have a3 : ¬ n < 2097152 := by omega
      have a4 : ¬ n < 268435456 := by omega
      have a5 : ¬ n < 34359738368 := by omega
      have a6 : ¬ n < 4398046511104 := by omega
      simp only [a1, a2, a3, a4, a5, a6, h7, h8, if_true, if_false]
  · have a1 : ¬ n < 128 := by omega
    have a2 : ¬ n < 16384 := by omega
    have a3 : ¬ n < 2097152 := by omega
    have a4 : ¬ n < 268435456 := by omega
    have a5 : ¬ n < 34359738368 := by omega
    have a6 : ¬ n < 4398046511104 := by omega
    have a7 : ¬ n < 562949953421312 := by omega
    simp only [a1, a2, a3, a4, a5, a6, a7, h8, if_false]
theorem wid_mono {a b : Nat} (h : a ≤ b) : wid a ≤ wid b := by
  rw [wid_sum, wid_sum]
  have := st_mono 128 h
  have := st_mono 16384 h
  have := st_mono 2097152 h
  have := st_mono 268435456 h
  have := st_mono 34359738368 h
  have := st_mono 4398046511104 h
  have := st_mono 562949953421312 h
  have := st_mono 72057594037927936 h
  omega

theorem enc_less (a b : Nat) (ha : a < 18446744073709551616) (hb : b < 18446744073709551616) : lessN (enc a) (enc b) = decide (a < b) := by
  obtain ⟨a1, a2, a3, a4, a5⟩ := first_cases a ha
  obtain ⟨b1, b2, b3, b4, b5⟩ := first_cases b hb
  have wa := wid_pos a
  have wb := wid_pos b
  simp only [enc, lessN]
  rcases Nat.lt_trichotomy (wid a) (wid b) with h | h | h
  · have h1 := a3 (by omega)
    have h2 := mark_mono (show wid a + 1 ≤ wid b by omega)
    have h3 : a < b := by
      rcases Nat.lt_or_ge a b with h | h'
      · exact h
      · have := wid_mono h'; omega
    have h4 : first a < first b := by omega
    simp [h3, h4]
  · rw [h, less_be]
    rw [h] at a1 a4
    have ea := (Nat.div_add_mod' a (256 ^ (wid b - 1))).symm
    have eb := (Nat.div_add_mod' b (256 ^ (wid b - 1))).symm
    have hp : 0 < 256 ^ (wid b - 1) := Nat.pow_pos (by omega)
    have la : a % 256 ^ (wid b - 1) < 256 ^ (wid b - 1) := Nat.mod_lt _ hp
    have lb : b % 256 ^ (wid b - 1) < 256 ^ (wid b - 1) := Nat.mod_lt _ hp
    rw [← a4] at ea
    rw [← b4] at eb
    generalize first a = p at *
    generalize first b = q at *
    generalize mark (wid b) = m at *
    generalize a % 256 ^ (wid b - 1) = r at *
    generalize b % 256 ^ (wid b - 1) = s at *
    generalize 256 ^ (wid b - 1) = M at *
    rcases Nat.lt_trichotomy p q with h | h | h
    · have : a < b := by
        rw [ea, eb]
        have := Nat.mul_le_mul_right M (show p - m + 1 ≤ q - m by omega)
        rw [Nat.add_mul, Nat.one_mul] at this
        omega
      simp [h, this]
    · subst h
      have : (a < b) ↔ r < s := by rw [ea, eb]; omega
      simp [this]
    · have h2 : ¬ a < b := by
        rw [ea, eb]
        have := Nat.mul_le_mul_right M (show q - m + 1 ≤ p - m by omega)
        rw [Nat.add_mul, Nat.one_mul] at this
        omega
      have h1 : ¬ p < q := by omega
      have h3 : (p == q) = false := by simp; omega
      simp [h1, h2, h3]
  · have h1 := b3 (by omega)
    have h2 := mark_mono (show wid b + 1 ≤ wid a by omega)
    have h3 : ¬ a < b := by
      intro h'
      have := wid_mono (Nat.le_of_lt h'); omega
    have h4 : ¬ first a < first b := by omega
    have h5 : (first a == first b) = false := by simp; omega
    simp [h3, h4, h5]

theorem enc_lt (n : Nat) (h : n < 18446744073709551616) : ∀ b ∈ enc n, b < 256 := by
  intro b hb
  simp only [enc, List.mem_cons] at hb
  rcases hb with rfl | hb
  · exact (first_cases n h).2.1
  · exact be_lt _ _ b hb

theorem enc_begins (a b : Nat) (ha : a < 18446744073709551616) (hb : b < 18446744073709551616) : (enc a <+: enc b) ↔ a = b := by
  constructor
  · rintro ⟨t, ht⟩
    exact (enc_prefix ha hb (x := t) (y := []) (by simpa using ht)).1
  · rintro rfl; exact List.prefix_refl _

end Go.Proofs.Ytpiainanlmpieaa.VP
