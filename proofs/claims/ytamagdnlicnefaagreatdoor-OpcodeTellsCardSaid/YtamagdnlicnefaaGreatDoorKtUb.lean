/- Opcode: the document's side, plain: digits, words, texts. -/
import Derived.Test.YtamagdnlicnefaaGreatDoorKtPRefc
import Derived.Test.YtamagdnlicnefaaGreatDoorKtUa
namespace Go.Proofs.YtamagdnlicnefaaGreatDoor
open Go.RowKit Go.Shelf Go.Proofs.YtamagdnlicnefaaGreatDoorW.PrintWords Go.Proofs.YtamagdnlicnefaaGreatDoorW.PrintLast Go.Proofs.YtamagdnlicnefaaGreatDoorW.PrintMore
open Go.Proofs.YtamagdnlicnefaaGreatDoor.PRef

def digD (i u : Nat) : List UInt8 := if u = 0 ∧ i ≠ 0 then [] else Lib.decDigits u
def signL (x : Int) (l : List UInt8) : List UInt8 := if x < 0 then 45 :: l else l
theorem dig_one (u : Nat) : strOfNums [(IntKind.u64.wrap (48 + (Int.tmod (u : Int) 10))) % 256] = ⟨#[UInt8.ofNat (48 + u % 10)]⟩ := by
  have e : (IntKind.u64.wrap (48 + (Int.tmod (u : Int) 10))) % 256 = ((48 + u % 10 : Nat) : Int) := by
    rw [Int.tmod_eq_emod_of_nonneg (by omega), IntKind.wrap_u64]
    omega
  rw [e]
  rfl
theorem digD_step {i u : Nat} (h : u > 0 ∨ i = 0) : digD i u = digD (i + 1) (u / 10) ++ [UInt8.ofNat (48 + u % 10)] := by
  unfold digD
  rw [if_neg (by omega)]
  by_cases h1 : u < 10
  · rw [Lib.decDigits_one h1, if_pos (by omega), List.nil_append, Nat.mod_eq_of_lt h1]
  · rw [if_neg (by omega), Lib.decDigits, dif_neg h1]
theorem str_app (l : List UInt8) (s : ByteArray) : (⟨l.toArray⟩ : ByteArray) ++ s = ⟨(l ++ s.data.toList).toArray⟩ := by
  apply ByteArray.ext
  simp
theorem digits_l (x : Int) : ∀ (n i : Nat), i + n = 20 → ∀ (u : Nat), u < 10 ^ n → ∀ (s : ByteArray), s.size ≤ i → ∀ f, n < f → backstayref02_Digits.l0 f x u s i = some ⟨(signL x (digD i u ++ s.data.toList)).toArray⟩ := by
  have fin : ∀ s : ByteArray, s.size ≤ 30 → (if x < 0 then (if 1 + s.size ≤ 9223372036854775807 then (some ((⟨#[45]⟩ : ByteArray) ++ s)) else (none)) else (some s)) = some ⟨(signL x s.data.toList).toArray⟩ := by
    intro s hs
    unfold signL
    by_cases h : x < 0
    · rw [if_pos h, if_pos h, if_pos (by omega), str_app [45] s]
      rfl
    · rw [if_neg h, if_neg h]
  intro n
  induction n with
  | zero =>
    intro i hi u hu s hs f hf
    obtain ⟨f, rfl⟩ : ∃ g, f = g + 1 := ⟨f - 1, by omega⟩
    obtain rfl : u = 0 := by simpa using hu
    unfold backstayref02_Digits.l0
    rw [if_neg (by omega)]
    have : digD i 0 = [] := if_pos ⟨rfl, by omega⟩
    rw [this, List.nil_append]
    exact fin s (by omega)
  | succ n ih =>
    intro i hi u hu s hs f hf
    obtain ⟨f, rfl⟩ : ∃ g, f = g + 1 := ⟨f - 1, by omega⟩
    have hdiv : IntKind.u64.wrap (Int.tdiv (u : Int) 10) = ((u / 10 : Nat) : Int) := by
      rw [Int.tdiv_eq_ediv_of_nonneg (by omega), IntKind.wrap_u64]
      have : u < 10 ^ 20 := Nat.lt_of_lt_of_le hu (Nat.pow_le_pow_right (by omega) (by omega))
      have e : (10 : Nat) ^ 20 = 100000000000000000000 := by decide
      omega
    have hw : wrap64 ((i : Int) + 1) = ((i + 1 : Nat) : Int) := by unfold wrap64; omega
    have hnext : (u > 0 ∨ i = 0) → backstayref02_Digits.l0 f x (IntKind.u64.wrap (Int.tdiv (u : Int) 10)) ((strOfNums [(IntKind.u64.wrap (48 + (Int.tmod (u : Int) 10))) % 256]) ++ s) (wrap64 ((i : Int) + 1)) = some ⟨(signL x (digD i u ++ s.data.toList)).toArray⟩ := by
      intro h
      rw [hdiv, hw, dig_one]
      have hsz : ((⟨#[UInt8.ofNat (48 + u % 10)]⟩ : ByteArray) ++ s).size ≤ i + 1 := by
        rw [ByteArray.size_append]
        show 1 + _ ≤ _
        omega
      rw [ih (i + 1) (by omega) (u / 10) (by rw [Nat.pow_succ] at hu; omega) _ hsz f (by omega), digD_step h]
      have e : ((⟨#[UInt8.ofNat (48 + u % 10)]⟩ : ByteArray) ++ s).data.toList = UInt8.ofNat (48 + u % 10) :: s.data.toList := by simp
      rw [e, List.append_assoc]
      rfl
    have hs1 : (strOfNums [(IntKind.u64.wrap (48 + (Int.tmod (u : Int) 10))) % 256]).size = 1 := by rw [dig_one]; rfl
    unfold backstayref02_Digits.l0
    rw [if_pos (by omega)]
    by_cases h1 : (u : Int) > 0
    · rw [if_pos h1, Option.bind_some, if_pos (by rw [hs1]; omega)]
      exact hnext (.inl (by omega))
    · rw [if_neg h1]
      by_cases h2 : i = 0
      · rw [if_pos (by omega), Option.bind_some, if_pos (by rw [hs1]; omega)]
        exact hnext (.inr h2)
      · rw [if_neg (by omega)]
        obtain rfl : u = 0 := by omega
        have : digD i 0 = [] := if_pos ⟨rfl, h2⟩
        rw [this, List.nil_append]
        exact fin s (by omega)
theorem digits_f (n : Int) (h0 : -9223372036854775808 ≤ n) (h1 : n ≤ 9223372036854775807) : backstayref02_Digits.f 40 n = some ⟨(Lib.itoa n).toArray⟩ := by
  have key : ∀ u : Nat, u < 18446744073709551616 → backstayref02_Digits.j0 40 n (u : Int) (⟨#[]⟩ : ByteArray) = some ⟨(signL n (Lib.decDigits u)).toArray⟩ := by
    intro u hu
    have := digits_l n 20 0 rfl u (by have e : (10 : Nat) ^ 20 = 100000000000000000000 := by decide
                                      omega) ⟨#[]⟩ (Nat.le_refl _) 39 (by omega)
    have e : digD 0 u = Lib.decDigits u := if_neg (by omega)
    rw [e] at this
    rw [show ((0 : Nat) : Int) = 0 from rfl] at this
    show backstayref02_Digits.l0 39 n u ⟨#[]⟩ 0 = _
    rw [this]
    simp
  unfold backstayref02_Digits.f
  by_cases h : n < 0
  · rw [if_pos h]
    have e : IntKind.u64.wrap (-(IntKind.u64.wrap n)) = ((n.natAbs : Nat) : Int) := by rw [IntKind.wrap_u64, IntKind.wrap_u64]; omega
    rw [e, key n.natAbs (by omega)]
    unfold signL Lib.itoa
    rw [if_pos h, if_pos h]
  · rw [if_neg h]
    have e : IntKind.u64.wrap n = ((n.toNat : Nat) : Int) := by rw [IntKind.wrap_u64]; omega
    rw [e, key n.toNat (by omega)]
    unfold signL Lib.itoa
    rw [if_neg h, if_neg h]
theorem word_f (k : Nat) (n : Int) (hk : k ≤ 10) (hin : inB k n = true) : backstayref04_word.f 41 k n = some ⟨(showK k n).toArray⟩ := by
  have hb := in_bounds hin
  have hlo := lo_ge k
  have hhi := hi_le k hk
  have d2 : ∀ n : Fin 5, 1 ≤ n.val → backstayref04_word.f 41 2 (n.val : Int) = some ⟨(showK 2 (n.val : Int)).toArray⟩ := by decide +kernel
  have d3 : ∀ n : Fin 5, 1 ≤ n.val → backstayref04_word.f 41 3 (n.val : Int) = some ⟨(showK 3 (n.val : Int)).toArray⟩ := by decide +kernel
  have d8 : ∀ n : Fin 14, backstayref04_word.f 41 8 (n.val : Int) = some ⟨(showK 8 (n.val : Int)).toArray⟩ := by decide +kernel
  have d9 : ∀ n : Fin 9, backstayref04_word.f 41 9 (n.val : Int) = some ⟨(showK 9 (n.val : Int)).toArray⟩ := by decide +kernel
  have hlh : lo 2 = 1 ∧ hi 2 = 4 ∧ lo 3 = 1 ∧ hi 3 = 3 ∧ lo 8 = 0 ∧ hi 8 = 13 ∧ lo 9 = 0 ∧ hi 9 = 8 := by decide
  by_cases h2 : k = 2
  · subst h2
    obtain ⟨m, rfl⟩ := Int.eq_ofNat_of_zero_le (show 0 ≤ n by omega)
    exact d2 ⟨m, by omega⟩ (by simp only; omega)
  by_cases h3 : k = 3
  · subst h3
    obtain ⟨m, rfl⟩ := Int.eq_ofNat_of_zero_le (show 0 ≤ n by omega)
    exact d3 ⟨m, by omega⟩ (by simp only; omega)
  by_cases h8 : k = 8
  · subst h8
    obtain ⟨m, rfl⟩ := Int.eq_ofNat_of_zero_le (show 0 ≤ n by omega)
    exact d8 ⟨m, by omega⟩
  by_cases h9 : k = 9
  · subst h9
    obtain ⟨m, rfl⟩ := Int.eq_ofNat_of_zero_le (show 0 ≤ n by omega)
    exact d9 ⟨m, by omega⟩
  have hn : isNamed k = false := by unfold isNamed; simp [h2, h3, h8, h9]
  have e : showK k n = Lib.itoa n := by unfold showK; rw [if_neg (by rw [hn]; decide)]
  rw [e]
  unfold backstayref04_word.f
  rw [if_neg (by omega)]
  have e3 : ((k : Int) == 3) = false := by simp; omega
  rw [e3]
  have ew : backstayref04_word.j0 41 n (k : Int) false = if (false = true) then ((backstayref04_letters.f).bind fun t215 => (if 0 ≤ n then (if n < (t215.length : Int) then (some (rdOf ByteArray.empty t215 n)) else (none)) else (none))) else (if (k : Int) = 8 then ((backstayref04_bins.f).bind fun t219 => (if 0 ≤ n then (if n < (t219.length : Int) then (some (rdOf ByteArray.empty t219 n)) else (none)) else (none))) else (if (k : Int) = 9 then ((backstayref04_uns.f).bind fun t223 => (if 0 ≤ n then (if n < (t223.length : Int) then (some (rdOf ByteArray.empty t223 n)) else (none)) else (none))) else ((backstayref02_Digits.f 40 n).bind fun t227 => (some t227)))) := rfl
  rw [ew, if_neg (by decide), if_neg (by omega), if_neg (by omega), digits_f n (by omega) (by omega)]
  rfl
end Go.Proofs.YtamagdnlicnefaaGreatDoor
