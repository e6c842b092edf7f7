/- The document's side answers as the plain words say · The document's Types, Read, Text, Show: plain · The document's read and Decode · The document's read and Decode: walks · The document's Decode; Reels side by side. -/
import Derived.Test.YtacmajlbaenjfaaS2
import Derived.Test.YtacmajlbaenjfaaV2
import Derived.Lib.Strings
import Derived.Deep.QuietTactic
import Derived.BigQuiet
/- The document's side answers as the plain words say. -/
namespace Go.Proofs.Ytacmajlbaenjfaa
open Go.RowKit Go.Shelf Go.Proofs.YtacmajlbaenjfaaW.PrintWords Go.Proofs.YtacmajlbaenjfaaW.PrintLast Go.Proofs.YtacmajlbaenjfaaW.PrintMore
open Go.Proofs.Ytacmajlbaenjfaa.PRef

theorem liftO {α : Type} {F : Nat → Option α} (hm : ∀ k, LeO (F k) (F (k + 1))) {k : Nat} {r : α} (h : F k = some r) : ∀ n, k ≤ n → F n = some r := by
  intro n hn
  induction n with
  | zero => obtain rfl : k = 0 := by omega
            exact h
  | succ n ih =>
    rcases Nat.lt_or_ge n k with h1 | h1
    · obtain rfl : k = n + 1 := by omega
      exact h
    · exact hm n r (ih h1)
theorem wrapN {x : Int} (h0 : 0 ≤ x) (h1 : x < 1000000000) : wrap64 x = x := by unfold wrap64; omega
theorem tyB_true (t : Int) : tyB true t = (decide (1 ≤ t) && decide (t ≤ 3)) := by
  unfold tyB knownT
  rw [Bool.eq_iff_iff]; simp; omega
theorem rd_drop {xs : List Int} {i : Nat} (h : i < xs.length) : xs.drop i = rd xs (i : Int) :: xs.drop (i + 1) := by
  rw [List.drop_eq_getElem_cons h]
  congr 1
  have := rd_mem h
  rw [List.getElem?_eq_getElem h] at this
  exact Option.some.inj this

theorem held_l (xs : List Int) (hl : xs.length ≤ 1000000) : ∀ k (i : Nat), i ≤ xs.length → xs.length - i < k → backstayref06_held.l0 k xs (i : Int) = some ((xs.drop i).all (tyB true))
  | 0, i, _, h => by omega
  | k + 1, i, hi, h => by
    unfold backstayref06_held.l0
    by_cases h1 : i < xs.length
    · rw [if_pos (by omega), if_pos (by omega), rd_drop h1, List.all_cons, tyB_true]
      by_cases h2 : rd xs (i : Int) < 1
      · rw [if_pos h2]
        have : decide (1 ≤ rd xs (i : Int)) = false := by simp; omega
        rw [this]; rfl
      · rw [if_neg h2]
        by_cases h3 : rd xs (i : Int) > 3
        · rw [if_pos h3]
          have : decide (rd xs (i : Int) ≤ 3) = false := by simp; omega
          rw [this]; simp
        · rw [if_neg h3, wrapN (by omega) (by omega)]
          have e1 : decide (1 ≤ rd xs (i : Int)) = true := by simp; omega
          have e2 : decide (rd xs (i : Int) ≤ 3) = true := by simp; omega
          rw [e1, e2, Bool.true_and, Bool.true_and]
          exact held_l xs hl k (i + 1) (by omega) (by omega)
    · rw [if_neg (by omega), List.drop_eq_nil_of_le (by omega)]; rfl
theorem held_f (xs : List Int) (hl : xs.length ≤ 1000) : backstayref06_held.f 2000 xs = some (xs.all (tyB true)) := by
  unfold backstayref06_held.f
  have := held_l xs (by omega) 2000 0 (by omega) (by omega)
  simpa using this
theorem check_f (xs : List Int) (hl : xs.length ≤ 1000) : backstayref06_Check.f 2000 xs = some (if shapeOk xs then 0 else 60) := by
  unfold backstayref06_Check.f shapeOk
  rw [held_f xs hl]
  simp only [Option.bind_some]
  cases xs.all (tyB true)
  · simp
  · rw [if_pos rfl]
    by_cases h1 : (xs.length : Int) < 1
    · rw [if_pos h1, decide_eq_false (by omega)]; rfl
    · rw [if_neg h1, decide_eq_true (by omega : 1 ≤ xs.length)]
      by_cases h2 : (xs.length : Int) > 16
      · rw [if_pos h2, decide_eq_false (by omega)]; rfl
      · rw [if_neg h2, decide_eq_true (by omega)]; rfl

theorem pk_full (xs : List Int) {q k : Nat} (h : 4 * q + 4 ≤ k) (hk : k ≤ xs.length) : pk xs k q = pk xs xs.length q := by
  have e : ∀ i, i < 4 → sh xs k q i = sh xs xs.length q i := fun i hi => by unfold sh; rw [if_pos (by omega), if_pos (by omega)]
  unfold pk
  rw [e 0 (by omega), e 1 (by omega), e 2 (by omega), e 3 (by omega)]
def outL (xs : List Int) (n : List Int) (q : Nat) : List Int := n ++ (List.range q).map (pk xs xs.length)
theorem outL_step (xs n : List Int) (q : Nat) : outL xs n q ++ [pk xs xs.length q] = outL xs n (q + 1) := by
  unfold outL
  rw [List.range_succ, List.map_append, ← List.append_assoc]; rfl
theorem acc_step {y b : Int} {r : Nat} (hr : r < 4) (hy0 : 1 ≤ y) (hy1 : y ≤ 4) (hb0 : 0 ≤ b) (hb1 : b < 4 ^ r) : wrap64 (b + wrap64 (4 ^ r * wrap64 (y - 1))) = b + (y - 1) * 4 ^ r := by
  rw [wrapN (x := y - 1) (by omega) (by omega)]
  match r, hr with
  | 0, _ =>
    have e : (4 : Int) ^ 0 = 1 := rfl
    rw [e] at *
    rw [wrapN (x := 1 * (y - 1)) (by omega) (by omega), wrapN (by omega) (by omega)]; omega
  | 1, _ =>
    have e : (4 : Int) ^ 1 = 4 := rfl
    rw [e] at *
    rw [wrapN (x := 4 * (y - 1)) (by omega) (by omega), wrapN (by omega) (by omega)]; omega
  | 2, _ =>
    have e : (4 : Int) ^ 2 = 16 := rfl
    rw [e] at *
    rw [wrapN (x := 16 * (y - 1)) (by omega) (by omega), wrapN (by omega) (by omega)]; omega
  | 3, _ =>
    have e : (4 : Int) ^ 3 = 64 := rfl
    rw [e] at *
    rw [wrapN (x := 64 * (y - 1)) (by omega) (by omega), wrapN (by omega) (by omega)]; omega
theorem four_step {r : Nat} (hr : r < 4) : wrap64 ((4 : Int) ^ r * 4) = 4 ^ (r + 1) := by
  match r, hr with
  | 0, _ => exact wrapN (x := (4 : Int) ^ 0 * 4) (by simp) (by simp)
  | 1, _ => exact wrapN (x := (4 : Int) ^ 1 * 4) (by simp) (by simp)
  | 2, _ => exact wrapN (x := (4 : Int) ^ 2 * 4) (by simp) (by simp)
  | 3, _ => exact wrapN (x := (4 : Int) ^ 3 * 4) (by simp) (by simp)
theorem types_step1 (xs : List Int) (hk : ∀ x ∈ xs, 1 ≤ x ∧ x ≤ 4) (hl : xs.length ≤ 64) (n : List Int) (hn : n.length ≤ 1000) : ∀ K,
    (∀ q : Nat, q ≤ 16 → 6 * (xs.length + 3 - 4 * q) + 1 ≤ K → backstayref06_Types.l0 K xs (outL xs n q) ((4 * q : Nat) : Int) = some (outL xs n (max q ((xs.length + 3) / 4)))) ∧
    (∀ q r : Nat, 4 * q < xs.length → r ≤ 4 → 4 * q + r ≤ xs.length → 6 * (xs.length + 3 - 4 * q) ≤ K + r → backstayref06_Types.l1 K xs (outL xs n q) ((4 * q : Nat) : Int) (pk xs (4 * q + r) q) (4 ^ r) ((4 * q + r : Nat) : Int) = some (outL xs n ((xs.length + 3) / 4)))
  | 0 => ⟨fun q _ h => by omega, fun q r h1 h2 h3 h4 => by omega⟩
  | K + 1 => by
    obtain ⟨ih0, ih1⟩ := types_step1 xs hk hl n hn K
    constructor
    · intro q hq hK
      unfold backstayref06_Types.l0
      by_cases h : 4 * q < xs.length
      · rw [if_pos (by omega)]
        have h0 := pk_bd xs hk (q := q) (r := 0) (by omega) (by omega)
        have e0 : pk xs (4 * q + 0) q = 0 := by omega
        have := ih1 q 0 h (by omega) (by omega) (by omega)
        rw [e0] at this
        rw [show max q ((xs.length + 3) / 4) = (xs.length + 3) / 4 by omega]
        exact this
      · rw [if_neg (by omega), show max q ((xs.length + 3) / 4) = q by omega]
    · intro q r h1 h2 h3 h4
      have hol : (outL xs n q).length < 140737488355328 := by unfold outL; simp; omega
      have fin : pk xs (4 * q + r) q = pk xs xs.length q → (if (outL xs n q).length < 140737488355328 then backstayref06_Types.l0 K xs (outL xs n q ++ [pk xs (4 * q + r) q % 256]) (((4 * q : Nat) : Int) + 4) else none) = some (outL xs n ((xs.length + 3) / 4)) := by
        intro e
        have hb := pk_byte xs hk (k := xs.length) (j := q) (Nat.le_refl _)
        rw [if_pos hol, e, Int.emod_eq_of_lt hb.1 (by omega), outL_step]
        have := ih0 (q + 1) (by omega) (by omega)
        rw [show max (q + 1) ((xs.length + 3) / 4) = (xs.length + 3) / 4 by omega] at this
        rw [show ((4 * q : Nat) : Int) + 4 = ((4 * (q + 1) : Nat) : Int) by omega]
        exact this
      unfold backstayref06_Types.l1
      rw [wrapN (x := ((4 * q : Nat) : Int) + 4) (by omega) (by omega)]
      by_cases h5 : r = 4
      · subst h5
        rw [if_neg (by omega)]
        exact fin (pk_full xs (by omega) h3)
      · rw [if_pos (by omega)]
        by_cases h6 : 4 * q + r < xs.length
        · rw [if_pos (by omega), if_pos (by omega)]
          have hm := hk (rd xs ((4 * q + r : Nat) : Int)) (List.mem_of_getElem? (rd_mem h6))
          have hp := pk_step xs (q := q) (r := r) (by omega) q
          rw [if_pos rfl] at hp
          have hb := pk_bd xs hk (q := q) (r := r) (by omega) h3
          have hr4 : r < 4 := by omega
          rw [acc_step hr4 hm.1 hm.2 hb.1 hb.2, ← hp, four_step hr4, wrapN (x := ((4 * q + r : Nat) : Int) + 1) (by omega) (by omega)]
          have := ih1 q (r + 1) h1 (by omega) (by omega) (by omega)
          rw [show ((4 * q + r : Nat) : Int) + 1 = ((4 * q + (r + 1) : Nat) : Int) by omega]
          exact this
        · rw [if_neg (by omega)]
          exact fin (by rw [show 4 * q + r = xs.length by omega])
theorem types_fK (K : Nat) (hK : 500 ≤ K) (xs : List Int) (hk : ∀ x ∈ xs, 1 ≤ x ∧ x ≤ 4) (hl : xs.length ≤ 64) : backstayref06_Types.f K xs = some (packL xs) := by
  unfold backstayref06_Types.f
  have hw : IntKind.u64.wrap (xs.length : Int) = xs.length := by unfold IntKind.wrap; simp [IntKind.bits, IntKind.signed]; omega
  have hnum := liftO (F := fun k => backstayref01_Number.f k (xs.length : Int)) (backstayref01_Number.mono _) (number_f xs.length (by omega)) K (by omega)
  rw [hw, hnum]
  have hel : (encI xs.length).length ≤ 9 := by rw [encI_length]; exact (VP.wid_pos _).2
  have := (types_step1 xs hk hl (encI xs.length) (by omega) K).1 0 (by omega) (by omega)
  simp only [Option.bind_some]
  have e0 : outL xs (encI xs.length) 0 = encI xs.length := by simp [outL]
  rw [e0] at this
  rw [show ((4 * 0 : Nat) : Int) = 0 from rfl] at this
  refine this.trans ?_
  congr 1
  unfold outL packL bytesL arrL
  rw [Nat.max_eq_right (by omega), ← List.map_take, List.take_range, Nat.min_eq_left (by omega)]
theorem types_f (xs : List Int) (hk : ∀ x ∈ xs, 1 ≤ x ∧ x ≤ 4) (hl : xs.length ≤ 64) : backstayref06_Types.f 2000 xs = some (packL xs) := types_fK 2000 (by omega) xs hk hl

theorem encode_f (xs : List Int) (hl : xs.length ≤ 1000) : backstayref06_Encode.f 2000 xs = some (encSh xs) := by
  unfold backstayref06_Encode.f encSh
  rw [check_f xs hl]
  simp only [Option.bind_some]
  by_cases h : shapeOk xs = true
  · rw [if_pos h, if_pos rfl, if_pos h, types_f xs (fun x hx => by have := shapeOk_mem h x hx; omega) (by have := shapeOk_len h; omega)]
    rfl
  · rw [if_neg h, if_neg (by decide), if_neg h]
theorem cell_f (xs : List Int) (i : Int) (hl : xs.length ≤ 1000) : backstayref06_Cell.f 2000 xs i = some (cellSh xs i) := by
  unfold backstayref06_Cell.f cellSh
  rw [check_f xs hl]
  simp only [Option.bind_some]
  by_cases h : shapeOk xs = true
  · rw [if_pos h, if_pos rfl]
    by_cases h1 : i < 0
    · rw [if_pos h1, if_neg (by omega)]
    · rw [if_neg h1]
      by_cases h2 : i ≥ (xs.length : Int)
      · rw [if_pos h2, if_neg (by omega)]
      · rw [if_neg h2, if_pos (by omega), if_pos (by omega), if_pos ⟨h, by omega, by omega⟩]
  · rw [if_neg h, if_neg (by decide), if_neg (fun h' => h h'.1)]
theorem ints_l (xs ys : List Int) (he : xs.length = ys.length) (hl : xs.length ≤ 1000) : ∀ k (i : Nat), i ≤ xs.length → xs.length - i < k → backstayref02_Ints.l0 k xs ys (i : Int) = some (decide (xs.drop i = ys.drop i))
  | 0, i, _, h => by omega
  | k + 1, i, hi, h => by
    unfold backstayref02_Ints.l0
    by_cases h1 : i < xs.length
    · rw [if_pos (by omega), if_pos (by omega), if_pos (by omega), rd_drop h1, rd_drop (xs := ys) (by omega)]
      by_cases h2 : rd xs (i : Int) = rd ys (i : Int)
      · rw [if_pos h2, wrapN (by omega) (by omega), h2]
        have := ints_l xs ys he hl k (i + 1) (by omega) (by omega)
        rw [show ((i : Nat) : Int) + 1 = ((i + 1 : Nat) : Int) by omega, this]
        simp
      · rw [if_neg h2, decide_eq_false (fun e => h2 (List.cons.inj e).1)]
    · rw [if_neg (by omega), List.drop_eq_nil_of_le (by omega), List.drop_eq_nil_of_le (by omega)]; rfl
theorem ints_f (xs ys : List Int) (hl : xs.length ≤ 1000) : backstayref02_Ints.f 2000 xs ys = some (decide (xs = ys)) := by
  unfold backstayref02_Ints.f
  by_cases h : xs.length = ys.length
  · rw [if_pos (by omega)]
    have := ints_l xs ys h hl 2000 0 (by omega) (by omega)
    simpa using this
  · rw [if_neg (by omega), decide_eq_false (fun e => h (by rw [e]))]
end Go.Proofs.Ytacmajlbaenjfaa

/- The document's Types, Read, Text, Show: plain. -/
namespace Go.Proofs.Ytacmajlbaenjfaa
open Go.RowKit Go.Shelf Go.Proofs.YtacmajlbaenjfaaW.PrintWords Go.Proofs.YtacmajlbaenjfaaW.PrintLast Go.Proofs.YtacmajlbaenjfaaW.PrintMore
open Go.Proofs.Ytacmajlbaenjfaa.PRef

theorem letter_f : backstayref02_Letter.f 1 = some ⟨#[73]⟩ ∧ backstayref02_Letter.f 2 = some ⟨#[82]⟩ ∧ backstayref02_Letter.f 3 = some ⟨#[70]⟩ ∧ backstayref02_Letter.f 4 = some ⟨#[80]⟩ := ⟨rfl, rfl, rfl, rfl⟩
theorem letter_f' (t : Int) (h : knownT t = true) : backstayref02_Letter.f t = some ⟨#[ltr t]⟩ := by
  have h4 : t = 1 ∨ t = 2 ∨ t = 3 ∨ t = 4 := by unfold knownT at h; simp at h; omega
  rcases h4 with rfl | rfl | rfl | rfl <;> rfl
theorem letter_no (t : Int) (h : knownT t = false) : backstayref02_Letter.f t = some ⟨#[]⟩ := by
  have h4 : ¬ (t = 1 ∨ t = 2 ∨ t = 3 ∨ t = 4) := by unfold knownT at h; simp at h; omega
  unfold backstayref02_Letter.f
  rw [if_neg (by omega), if_neg (by omega), if_neg (by omega), if_neg (by omega)]
/-- A byte's type as the document tells it (0: none). -/
def ltD (b : UInt8) : Int := if b = 73 then 1 else if b = 82 then 2 else if b = 70 then 3 else if b = 80 then 4 else 0
theorem ltD_ltT : ∀ b : UInt8, (ltB b = true → ltD b = ltT b ∧ ltD b ≠ 0) ∧ (ltB b = false → ltD b = 0) := by
  intro b
  have h : ∀ n : Fin 256, (ltB (UInt8.ofNat n.val) = true → ltD (UInt8.ofNat n.val) = ltT (UInt8.ofNat n.val) ∧ ltD (UInt8.ofNat n.val) ≠ 0) ∧ (ltB (UInt8.ofNat n.val) = false → ltD (UInt8.ofNat n.val) = 0) := by decide +kernel
  have := h ⟨b.toNat, b.toNat_lt⟩
  simpa using this
theorem ext_one (s : ByteArray) (i : Nat) (h : i < s.size) : (s.extract i (i + 1)).toList = [s[i]] := by
  rw [Lib.toList_data]
  have h2 : i < s.data.size := h
  have : (s.extract i (i + 1)).data = #[s[i]] := by
    rw [ByteArray.data_extract]
    apply Array.ext'
    rw [Array.toList_extract]
    show List.take (i + 1 - i) (List.drop i s.data.toList) = [s.data[i]]
    rw [List.drop_eq_getElem_cons (by simpa using h2), Nat.add_sub_cancel_left]
    simp
  rw [this]
theorem l1_eq (K : Nat) (s : ByteArray) (out : List Int) (i x k : Int) : backstayref02_Types.l1 (K + 1) s out i x k = if k ≤ 4 then ((backstayref02_Letter.f k).bind fun t139 => (if 0 ≤ i then (if i ≤ (wrap64 (i + 1)) then (if (wrap64 (i + 1)) ≤ (s.size : Int) then (if t139.toList = (s.extract (i : Int).toNat ((wrap64 (i + 1)) : Int).toNat).toList then (backstayref02_Types.l1 K s out i k (wrap64 (k + 1))) else (backstayref02_Types.l1 K s out i x (wrap64 (k + 1)))) else (none)) else (none)) else (none))) else (if x = 0 then (some (([] : List Int), 20)) else (if out.length < 17592186044416 then (backstayref02_Types.l0 K s (out ++ [x]) (wrap64 (i + 1))) else (none))) := by
  rw [backstayref02_Types.l1]
theorem l1_one (K : Nat) (s : ByteArray) (out : List Int) (i : Nat) (h : i < s.size) (hs : s.size ≤ 1024) (x k k2 : Int) (c : UInt8) (hk : backstayref02_Letter.f k = some ⟨#[c]⟩) (h1 : 1 ≤ k) (h4 : k ≤ 4) (h2 : k2 = k + 1) :
    backstayref02_Types.l1 (K + 1) s out (i : Int) x k = backstayref02_Types.l1 K s out (i : Int) (if s[i] = c then k else x) k2 := by
  have hw : wrap64 ((i : Int) + 1) = ((i + 1 : Nat) : Int) := by rw [wrapN (by omega) (by omega)]; omega
  have hx : ((s.extract (i : Int).toNat ((i + 1 : Nat) : Int).toNat).toList) = [s[i]] := by
    rw [Int.toNat_natCast, Int.toNat_natCast]; exact ext_one s i h
  have hl : (⟨#[c]⟩ : ByteArray).toList = [c] := by rw [Lib.toList_data]
  have hk1 : wrap64 (k + 1) = k2 := by rw [wrapN (by omega) (by omega), h2]
  have a1 : (0 : Int) ≤ i := by omega
  have a2 : (i : Int) ≤ ((i + 1 : Nat) : Int) := by omega
  have a3 : ((i + 1 : Nat) : Int) ≤ (s.size : Int) := by omega
  rw [l1_eq, hw, hk1]
  rw [if_pos h4, hk]
  simp only [Option.bind_some]
  rw [if_pos a1, if_pos a2, if_pos a3, hl, hx]
  by_cases e : s[i] = c
  · rw [if_pos e, if_pos (by rw [e])]
  · rw [if_neg e, if_neg (fun h => e (List.cons.inj h).1.symm)]
theorem l1_run (K : Nat) (s : ByteArray) (out : List Int) (i : Nat) (h : i < s.size) (hs : s.size ≤ 1024) (ho : out.length ≤ 1024) :
    backstayref02_Types.l1 (K + 5) s out (i : Int) 0 1 = if ltD (s[i]) = 0 then some ([], 20) else backstayref02_Types.l0 K s (out ++ [ltD (s[i])]) ((i + 1 : Nat) : Int) := by
  obtain ⟨e1, e2, e3, e4⟩ := letter_f
  have hw : wrap64 ((i : Int) + 1) = ((i + 1 : Nat) : Int) := by rw [wrapN (by omega) (by omega)]; omega
  rw [l1_one (K + 4) s out i h hs 0 1 2 73 e1 (by decide) (by decide) rfl, l1_one (K + 3) s out i h hs _ 2 3 82 e2 (by decide) (by decide) rfl, l1_one (K + 2) s out i h hs _ 3 4 70 e3 (by decide) (by decide) rfl, l1_one (K + 1) s out i h hs _ 4 5 80 e4 (by decide) (by decide) rfl]
  have hD : (if s[i] = 80 then (4 : Int) else if s[i] = 70 then 3 else if s[i] = 82 then 2 else if s[i] = 73 then 1 else 0) = ltD s[i] := by
    unfold ltD
    by_cases h1 : s[i] = 73
    · rw [h1]; decide
    · by_cases h2 : s[i] = 82
      · rw [h2]; decide
      · by_cases h3 : s[i] = 70
        · rw [h3]; decide
        · by_cases h4 : s[i] = 80
          · rw [h4]; decide
          · simp [h1, h2, h3, h4]
  rw [hD]
  rw [l1_eq, if_neg (by decide), if_pos (show out.length < 17592186044416 by omega), hw]
theorem types02_l (s : ByteArray) (hs : s.size ≤ 1024) : ∀ j K (i : Nat), i + j = s.size → 6 * j + 1 ≤ K → (s.data.toList.take i).all ltB = true → backstayref02_Types.l0 K s (tyL (s.data.toList.take i)) (i : Int) = some (typesT s.data.toList)
  | 0, K, i, hi, hK, ha => by
    obtain ⟨K, rfl⟩ : ∃ K', K = K' + 1 := ⟨K - 1, by omega⟩
    unfold backstayref02_Types.l0
    have e : s.data.toList.take i = s.data.toList := List.take_of_length_le (by simp; omega)
    rw [e] at ha ⊢
    rw [if_neg (by omega)]
    unfold typesT
    rw [if_pos ⟨ha, by simpa using hs⟩]
  | j + 1, K, i, hi, hK, ha => by
    obtain ⟨K, rfl⟩ : ∃ K', K = K' + 5 + 1 := ⟨K - 6, by omega⟩
    have hlt : i < s.size := by omega
    unfold backstayref02_Types.l0
    rw [if_pos (by omega), l1_run K s _ i hlt hs (by unfold tyL; simp; omega)]
    obtain ⟨d1, d2⟩ := ltD_ltT (s[i])
    cases hb : ltB (s[i])
    · rw [if_pos (d2 hb), all_not hlt hb]
    · obtain ⟨d3, d4⟩ := d1 hb
      rw [if_neg d4, d3]
      have e : tyL (s.data.toList.take i) ++ [ltT s[i]] = tyL (s.data.toList.take (i + 1)) := by rw [take_snoc s i hlt]; unfold tyL; simp
      rw [e]
      exact types02_l s hs j K (i + 1) (by omega) (by omega) (by rw [take_snoc s i hlt, List.all_append, ha]; simp [hb])
theorem types02_f (K : Nat) (hK : 7000 ≤ K) (s : ByteArray) : backstayref02_Types.f K s = some (typesT s.data.toList) := by
  unfold backstayref02_Types.f
  by_cases h : s.size ≤ 1024
  · rw [if_neg (by omega)]
    exact types02_l s h s.size K 0 (by omega) (by omega) rfl
  · rw [if_pos (by omega)]
    unfold typesT
    rw [if_neg (fun h' => h (by simpa using h'.2))]
theorem check_fK (K : Nat) (hK : 2000 ≤ K) (xs : List Int) (hl : xs.length ≤ 1000) : backstayref06_Check.f K xs = some (if shapeOk xs then 0 else 60) :=
  liftO (F := fun k => backstayref06_Check.f k xs) (backstayref06_Check.mono xs) (check_f xs hl) K hK
theorem typesT_len (l : List UInt8) (h : l.length ≤ 1000) : (typesT l).1.length ≤ 1000 := by
  unfold typesT; split <;> simp [tyL]; omega
theorem read_f (K : Nat) (hK : 7000 ≤ K) (s : ByteArray) (hs : s.size ≤ 1000) : backstayref06_Read.f K s = some (readSh s.data.toList) := by
  unfold backstayref06_Read.f readSh
  rw [types02_f K hK s]
  simp only [Option.bind_some]
  rw [check_fK K (by omega) _ (typesT_len _ (by simpa using hs))]
  by_cases h : (typesT s.data.toList).2 = 0
  · rw [if_pos h]
    simp only [Option.bind_some]
    by_cases h2 : shapeOk (typesT s.data.toList).1 = true
    · rw [if_pos h2, if_pos rfl, if_pos ⟨h, h2⟩]
    · rw [if_neg h2, if_neg (by decide), if_neg (fun h' => h2 h'.2)]
  · rw [if_neg h, if_neg (fun h' => h h'.1)]
theorem bytes_snoc (l : List UInt8) (c : UInt8) : (⟨l.toArray⟩ : ByteArray) ++ ⟨#[c]⟩ = ⟨(l ++ [c]).toArray⟩ := by
  apply ByteArray.ext
  simp
theorem text_l (xs : List Int) (hl : xs.length ≤ 1024) : ∀ j K (i : Nat), i + j = xs.length → j + 1 ≤ K → (xs.take i).all knownT = true → backstayref02_Text.l0 K xs ⟨((xs.take i).map ltr).toArray⟩ (i : Int) = some ⟨(textL xs).toArray⟩
  | 0, K, i, hi, hK, ha => by
    obtain ⟨K, rfl⟩ : ∃ K', K = K' + 1 := ⟨K - 1, by omega⟩
    unfold backstayref02_Text.l0
    have e : xs.take i = xs := List.take_of_length_le (by omega)
    rw [e] at ha ⊢
    rw [if_neg (by omega)]
    unfold textL
    rw [if_pos ⟨ha, hl⟩]
  | j + 1, K, i, hi, hK, ha => by
    obtain ⟨K, rfl⟩ : ∃ K', K = K' + 1 := ⟨K - 1, by omega⟩
    have hlt : i < xs.length := by omega
    have hts : xs.take (i + 1) = xs.take i ++ [rd xs (i : Int)] := by rw [List.take_add_one, rd_mem hlt]; rfl
    unfold backstayref02_Text.l0
    rw [if_pos (by omega), if_pos (by omega)]
    cases hb : knownT (rd xs (i : Int))
    · rw [letter_no _ hb]
      simp only [Option.bind_some]
      rw [if_pos (by rw [Lib.toList_data])]
      unfold textL
      rw [if_neg]
      intro ⟨h1, _⟩
      have := List.all_eq_true.1 h1 _ (List.mem_of_getElem? (rd_mem hlt))
      rw [hb] at this; cases this
    · rw [letter_f' _ hb]
      simp only [Option.bind_some]
      rw [if_neg (by rw [Lib.toList_data]; simp), bytes_snoc, if_pos (by show (((xs.take i).map ltr).toArray).size + 1 ≤ _; simp; omega), wrapN (by omega) (by omega)]
      have e : (xs.take i).map ltr ++ [ltr (rd xs (i : Int))] = (xs.take (i + 1)).map ltr := by rw [hts]; simp
      rw [e, show ((i : Nat) : Int) + 1 = ((i + 1 : Nat) : Int) by omega]
      exact text_l xs hl j K (i + 1) (by omega) (by omega) (by rw [hts, List.all_append, ha]; simp [hb])
theorem text_f (K : Nat) (hK : 2000 ≤ K) (xs : List Int) : backstayref02_Text.f K xs = some ⟨(textL xs).toArray⟩ := by
  unfold backstayref02_Text.f
  by_cases h : xs.length ≤ 1024
  · rw [if_neg (by omega)]
    have := text_l xs h xs.length K 0 (by omega) (by omega) rfl
    simpa using this
  · rw [if_pos (by omega)]
    unfold textL
    rw [if_neg (fun h' => h h'.2)]
theorem show_f (K : Nat) (hK : 2000 ≤ K) (xs : List Int) (hl : xs.length ≤ 1000) : backstayref06_Show.f K xs = some ⟨(showSh xs).toArray⟩ := by
  unfold backstayref06_Show.f showSh
  rw [check_fK K hK xs hl]
  simp only [Option.bind_some]
  by_cases h : shapeOk xs = true
  · rw [if_pos h, if_pos rfl, if_pos h, text_f K hK]; rfl
  · rw [if_neg h, if_neg (by decide), if_neg h]
end Go.Proofs.Ytacmajlbaenjfaa

/- The document's read and Decode. -/
namespace Go.Proofs.Ytacmajlbaenjfaa
open Go.RowKit Go.Shelf Go.Proofs.YtacmajlbaenjfaaW.PrintWords Go.Proofs.YtacmajlbaenjfaaW.PrintLast Go.Proofs.YtacmajlbaenjfaaW.PrintMore
open Go.Proofs.Ytacmajlbaenjfaa.PRef

theorem tys_length (B : List Int) : (tys B).length = 4 * B.length := by simp [tys]
theorem rd_tys (B : List Int) {n k : Nat} (hk : k < n) (hn : n ≤ 4 * B.length) : rd ((tys B).take n) (k : Int) = tyAt B k := by
  have h1 : k < ((tys B).take n).length := by rw [List.length_take, tys_length]; omega
  have h2 := rd_mem h1
  rw [List.getElem?_take_of_lt hk] at h2
  unfold tys at h2
  rw [List.getElem?_map, List.getElem?_range (by omega)] at h2
  exact (Option.some.inj h2).symm
theorem tyAt_q (B : List Int) (j i : Nat) (hi : i < 4) : tyAt B (4 * j + i) = rd B (j : Int) / 2 ^ (2 * i) % 4 + 1 := by
  unfold tyAt
  rw [show (4 * j + i) / 4 = j by omega, show (4 * j + i) % 4 = i by omega]
theorem pk_B (B : List Int) (n j : Nat) (hn : n ≤ 4 * B.length) (hb : 0 ≤ rd B (j : Int) ∧ rd B (j : Int) ≤ 255) :
    pk ((tys B).take n) n j = rd B (j : Int) ↔ ∀ i, i < 4 → tyOk B n (4 * j + i) = true := by
  have hs : ∀ i, i < 4 → sh ((tys B).take n) n j i = if 4 * j + i < n then (tyAt B (4 * j + i) - 1) * 4 ^ i else 0 := fun i hi => by
    unfold sh
    by_cases h : 4 * j + i < n
    · rw [if_pos h, if_pos h, rd_tys B h hn]
    · rw [if_neg h, if_neg h]
  unfold pk
  rw [hs 0 (by omega), hs 1 (by omega), hs 2 (by omega), hs 3 (by omega)]
  have t0 := tyAt_q B j 0 (by omega)
  have t1 := tyAt_q B j 1 (by omega)
  have t2 := tyAt_q B j 2 (by omega)
  have t3 := tyAt_q B j 3 (by omega)
  have ok : ∀ i, tyOk B n (4 * j + i) = true ↔ (4 * j + i < n ∨ tyAt B (4 * j + i) = 1) := fun i => by
    unfold tyOk
    rw [Bool.or_eq_true, decide_eq_true_iff, beq_iff_eq]
    constructor
    · rintro (h | h)
      · exact .inl (by omega)
      · exact .inr h
    · rintro (h | h)
      · exact .inl (by omega)
      · exact .inr h
  have all4 : (∀ i, i < 4 → tyOk B n (4 * j + i) = true) ↔ ((4 * j + 0 < n ∨ tyAt B (4 * j + 0) = 1) ∧ (4 * j + 1 < n ∨ tyAt B (4 * j + 1) = 1) ∧ (4 * j + 2 < n ∨ tyAt B (4 * j + 2) = 1) ∧ (4 * j + 3 < n ∨ tyAt B (4 * j + 3) = 1)) := by
    constructor
    · intro h
      exact ⟨(ok 0).1 (h 0 (by omega)), (ok 1).1 (h 1 (by omega)), (ok 2).1 (h 2 (by omega)), (ok 3).1 (h 3 (by omega))⟩
    · rintro ⟨h0, h1, h2, h3⟩ i hi
      have : i = 0 ∨ i = 1 ∨ i = 2 ∨ i = 3 := by omega
      rcases this with rfl | rfl | rfl | rfl
      · exact (ok 0).2 h0
      · exact (ok 1).2 h1
      · exact (ok 2).2 h2
      · exact (ok 3).2 h3
  rw [all4]
  generalize rd B (j : Int) = b at *
  generalize tyAt B (4 * j + 0) = a0 at *
  generalize tyAt B (4 * j + 1) = a1 at *
  generalize tyAt B (4 * j + 2) = a2 at *
  generalize tyAt B (4 * j + 3) = a3 at *
  simp only [Nat.mul_zero, Nat.mul_one, Nat.reduceMul, Int.pow_zero, Int.reducePow, Int.ediv_one, Int.mul_one] at *
  clear hs ok all4
  have g2 : b / 16 = b / 4 / 4 := by omega
  have g3 : b / 64 = b / 4 / 4 / 4 := by omega
  rw [g2] at t2
  rw [g3] at t3
  by_cases h0 : 4 * j + 0 < n <;> by_cases h1 : 4 * j + 1 < n <;> by_cases h2 : 4 * j + 2 < n <;> by_cases h3 : 4 * j + 3 < n <;> simp only [h0, h1, h2, h3, if_true, if_false, true_or, false_or, true_and, and_true, iff_true] <;> omega

theorem bytes_B (B : List Int) (n : Nat) (hn : n ≤ 4 * B.length) (hm : B.length = (n + 3) / 4) (h64 : n ≤ 64) (hb : ∀ b ∈ B, 0 ≤ b ∧ b ≤ 255) : bytesL ((tys B).take n) = B ↔ tysB B n = true := by
  have hl : ((tys B).take n).length = n := by rw [List.length_take, tys_length]; omega
  have he : bytesL ((tys B).take n) = (List.range B.length).map (pk ((tys B).take n) n) := by
    unfold bytesL arrL
    rw [hl, ← List.map_take, List.take_range, ← hm, Nat.min_eq_left (by omega)]
  rw [he]
  have h1 : (List.range B.length).map (pk ((tys B).take n) n) = B ↔ ∀ j, j < B.length → pk ((tys B).take n) n j = rd B (j : Int) := by
    constructor
    · intro h j hj
      have h2 := rd_mem hj
      rw [← h] at h2
      rw [List.getElem?_map, List.getElem?_range (by rw [← h, List.length_map, List.length_range] at hj; exact hj)] at h2
      rw [h] at h2
      exact Option.some.inj h2
    · intro h
      apply List.ext_getElem?
      intro j
      by_cases hj : j < B.length
      · rw [List.getElem?_map, List.getElem?_range hj, rd_mem hj, ← h j hj]; rfl
      · rw [List.getElem?_eq_none (by simp; omega), List.getElem?_eq_none (by omega)]
  rw [h1]
  unfold tysB
  rw [List.all_eq_true]
  constructor
  · intro h k hk
    have hk2 := List.mem_range.1 hk
    have h2 := (pk_B B n (k / 4) hn (hb _ (List.mem_of_getElem? (rd_mem (by omega))))).1 (h (k / 4) (by omega)) (k % 4) (by omega)
    rwa [show 4 * (k / 4) + k % 4 = k by omega] at h2
  · intro h j hj
    exact (pk_B B n j hn (hb _ (List.mem_of_getElem? (rd_mem hj)))).2 (fun i hi => h _ (List.mem_range.2 (by omega)))
end Go.Proofs.Ytacmajlbaenjfaa

/- The document's read and Decode: walks. -/
namespace Go.Proofs.Ytacmajlbaenjfaa
open Go.RowKit Go.Shelf Go.Proofs.YtacmajlbaenjfaaW.PrintWords Go.Proofs.YtacmajlbaenjfaaW.PrintLast Go.Proofs.YtacmajlbaenjfaaW.PrintMore
open Go.Proofs.Ytacmajlbaenjfaa.PRef

theorem tyAt_run (B : List Int) (i : Nat) (_h : 0 ≤ rd B ((i / 4 : Nat) : Int)) : (rd B ((i / 4 : Nat) : Int) / 4 ^ (i % 4)) % 4 + 1 = tyAt B i := by
  unfold tyAt
  rw [Int.pow_mul]; rfl

theorem strNums_beq (xs ys : List Int) (hx : ∀ x ∈ xs, 0 ≤ x ∧ x ≤ 255) (hy : ∀ y ∈ ys, 0 ≤ y ∧ y ≤ 255) : ((strOfNums xs).toList == (strOfNums ys).toList) = decide (xs = ys) := by
  rw [Lib.strOfNums_toList, Lib.strOfNums_toList, Bool.eq_iff_iff, beq_iff_eq, decide_eq_true_iff]
  refine ⟨fun h => ?_, fun h => by rw [h]⟩
  have back : ∀ l : List Int, (∀ x ∈ l, 0 ≤ x ∧ x ≤ 255) → (Lib.bytesOf l).map (fun b => (b.toNat : Int)) = l := fun l hl => by
    unfold Lib.bytesOf
    rw [List.map_map]
    refine Eq.trans (List.map_congr_left (g := id) fun b hb => ?_) (List.map_id _)
    have := hl b hb
    simp only [Function.comp, id, UInt8.toNat_ofNat']
    omega
  rw [← back xs hx, ← back ys hy, h]
theorem mem_tys {B : List Int} {n : Nat} {x : Int} (h : x ∈ (tys B).take n) : 1 ≤ x ∧ x ≤ 4 := by
  have h1 := List.mem_of_mem_take h
  unfold tys at h1
  obtain ⟨i, _, rfl⟩ := List.mem_map.1 h1
  unfold tyAt
  omega
theorem mem_bytesL {xs : List Int} (hk : ∀ x ∈ xs, 1 ≤ x ∧ x ≤ 4) {b : Int} (h : b ∈ bytesL xs) : 0 ≤ b ∧ b ≤ 255 := by
  unfold bytesL arrL at h
  obtain ⟨j, _, rfl⟩ := List.mem_map.1 (List.mem_of_mem_take h)
  exact pk_byte xs hk (Nat.le_refl _)
theorem quo_pow (b : Int) (j : Nat) : b / 4 ^ j / 4 = b / 4 ^ (j + 1) := by
  rw [Int.ediv_ediv_of_nonneg (Int.pow_nonneg (by omega)), Int.pow_succ]
theorem quo_bd {b : Int} (h0 : 0 ≤ b) (h1 : b ≤ 255) (j : Nat) : 0 ≤ b / 4 ^ j ∧ b / 4 ^ j ≤ 255 := by
  have h4 : (1 : Int) ≤ 4 ^ j := by have h : (0 : Int) < 4 ^ j := Int.pow_pos (by omega); omega
  exact ⟨Int.ediv_nonneg h0 (by omega), Int.le_trans (Int.ediv_le_self _ h0) h1⟩
/-- What read leaves, behind the bytes. -/
def resT (B : List Int) (n k1 k2 : Nat) : Bool × List Int × Nat := if (0 : Nat) = 0 ∧ tysB B n = true then (true, (tys B).take n, k1 + k2) else (false, [], k1 + k2)
theorem resT_fst (B : List Int) (n k1 k2 : Nat) : (resT B n k1 k2).1 = tysB B n := by
  unfold resT
  cases h : tysB B n
  · rw [if_neg (by simp)]
  · rw [if_pos ⟨rfl, rfl⟩]
theorem resT_snd {B : List Int} {n k1 k2 : Nat} (h : tysB B n = true) : (resT B n k1 k2).2 = ((tys B).take n, k1 + k2) := by
  unfold resT
  rw [if_pos ⟨rfl, h⟩]
theorem own_CB {w : World} {base : Nat} {A : Option Addr} {n c : Nat} {bs : List Int} (h : w.ownsRow base 5 1 (.slice A n c) bs.length (nums .u8 bs)) : n = bs.length ∧ n ≤ c ∧ (Kd.int .u8).C w A bs.length bs := row_C h

set_option maxRecDepth 100000 in
set_option maxHeartbeats 2000000 in
theorem read47_any (w : World) (g base : Nat) (v : Value) (bs : List Int) (p : Nat) (most : Int) (h0 : 0 ≤ most) (h1 : most ≤ 64) (hR : RefIs w g base v bs p) (hsm : bs.length < 140737488355328) :
    Calls Try.prog 47 #[.pointer (some ⟨g, 0, none⟩), .int .u64 most] w fun e w' => ∃ u ys q, e = .returned (.tuple #[u, .bool (typesR bs p most).1]) ∧ ys.length ≤ 64 ∧
      w'.ownsRow w.heap.size 3 1 u ys.length (nums .i64 ys) ∧ RefIs w' g base v bs q ∧ ((typesR bs p most).1 = true → ys = (typesR bs p most).2.1 ∧ q = p + (typesR bs p most).2.2) ∧ Fr (fun i => i = g) w w' := by
  by_cases he : (readN (rest bs p) most).2.1 = 0
  case neg =>
    have e1 : typesR bs p most = (false, [], (readN (rest bs p) most).2.2) := by unfold typesR; rw [if_neg he]
    rw [e1]
    have HN := Lib.hid (RefRNumber_any w g base v bs p most hR)
    have he' : ¬ (((readN (rest bs p) most).2.1 : Nat) : Int) = 0 := by omega
    clear hR e1 he
    generalize readN (rest bs p) most = N at *
    go_enter Try.func47, Try.ntmps47
    go_wp2_with (go_at_call 71; refine HN.out.mono ?_; rintro e w1 ⟨rfl, hR1, hF1⟩; have HR1 := Lib.hid hR1; have HF1 := Lib.hid hF1; clear hR1 hF1)
    go_ret2
    exact ⟨_, [], _, rfl, by simp, World.ownsRow_nil _ _ _ _, HR1.out, fun h => (by cases h), HF1.out⟩
  case pos =>
    have HN := Lib.hid (RefRNumber_any w g base v bs p most hR)
    have hmost := readN_most he
    obtain ⟨n, hn⟩ : ∃ n, (readN (rest bs p) most).1 = n := ⟨_, rfl⟩
    obtain ⟨k1, hk1⟩ : ∃ k1, (readN (rest bs p) most).2.2 = k1 := ⟨_, rfl⟩
    have hby := hR.bytes
    rw [hn, hk1] at HN
    have eT : typesR bs p most = if (readR bs (p + k1) ((n + 3) / 4 : Nat)).2.1 = 0 ∧ tysB (readR bs (p + k1) ((n + 3) / 4 : Nat)).1 n then (true, (tys (readR bs (p + k1) ((n + 3) / 4 : Nat)).1).take n, k1 + (readR bs (p + k1) ((n + 3) / 4 : Nat)).2.2) else (false, [], k1 + (readR bs (p + k1) ((n + 3) / 4 : Nat)).2.2) := by
      unfold typesR; rw [if_pos he, hn, hk1]
    rw [eT]
    rw [he] at HN
    rw [hn] at hmost
    clear he hn hk1 hR eT
    have hm1 : IntKind.i64.wrap (n : Int) = n := by rw [IntKind.wrap_i64]; omega
    have hm3 : IntKind.i64.wrap ((n : Int) + 3) = (n : Int) + 3 := by rw [IntKind.wrap_i64]; omega
    have hm4 : ((n : Int) + 3).tdiv 4 = (((n + 3) / 4 : Nat) : Int) := by rw [Int.tdiv_eq_ediv_of_nonneg (by omega)]; omega
    have hm5 : IntKind.i64.wrap (((n + 3) / 4 : Nat) : Int) = (((n + 3) / 4 : Nat) : Int) := by rw [IntKind.wrap_i64]; omega
    have hlE := fun h => readR_len (bs := bs) (p := p + k1) (n := (n + 3) / 4) h
    have hlM := fun b h => hby b (readR_mem (bs := bs) (p := p + k1) (n := (n + 3) / 4) h)
    have hn64 : n ≤ 64 := by omega
    have hx0 := fun W (hR : RefIs W g base v bs (p + k1)) => RefRaw_any W g base v bs (p + k1) (((n + 3) / 4 : Nat) : Int) hR hsm (by omega) (by omega)
    generalize readR bs (p + k1) ((n + 3) / 4 : Nat) = R at *
    obtain ⟨B, er, k2⟩ := R
    simp only at *
    obtain ⟨i0, hi0, hz0, hz1, hz2⟩ := info_parts info3
    obtain ⟨ib, hib, hib0, hib1, hib2⟩ := info_parts info5
    by_cases her : er = 0
    case neg =>
      have hi : (if er = 0 ∧ tysB B n = true then (true, (tys B).take n, k1 + k2) else ((false, [], k1 + k2) : Bool × List Int × Nat)) = (false, [], k1 + k2) := if_neg (fun h => her h.1)
      rw [hi]
      have her' : ¬ (er : Int) = 0 := by omega
      have HX := Lib.hid hx0
      clear hi hlE hlM hx0 hby her
      go_enter Try.func47, Try.ntmps47
      go_wp2_with (first | (go_at_call 71; refine HN.out.mono ?_; rintro e w1 ⟨rfl, hR1, hF1⟩; have HX1 := Lib.hid (HX.out w1 hR1); have HF1 := Lib.hid hF1; clear hR1 hF1) | (go_at_call 72; refine HX1.out.mono ?_; rintro e w2 ⟨u, rfl, hu, hR2, hF2⟩; obtain ⟨A, c, rfl⟩ := own_slice hu; have HF2 := Lib.hid hF2; have HR2 := Lib.hid hR2; clear hu hR2 hF2))
      go_ret2
      exact ⟨_, [], _, rfl, by simp, World.ownsRow_nil _ _ _ _, HR2.out, fun h => (by cases h), HF1.out.trans HF2.out (fun _ _ h => h)⟩
    case pos =>
      subst her
      have hi : (if (0 : Nat) = 0 ∧ tysB B n = true then (true, (tys B).take n, k1 + k2) else ((false, [], k1 + k2) : Bool × List Int × Nat)) = resT B n k1 k2 := rfl
      rw [hi, resT_fst]
      clear hi
      have HRS := Lib.hid (fun (h : tysB B n = true) => resT_snd (k1 := k1) (k2 := k2) h)
      generalize resT B n k1 k2 = RT at *
      have hBl := hlE rfl
      have HX := Lib.hid hx0
      have HM := Lib.hid hlM
      clear hlE hlM hx0 hby
      go_enter Try.func47, Try.ntmps47
      go_wp2_with (first | (go_at_call 71; refine HN.out.mono ?_; rintro e w1 ⟨rfl, hR1, hF1⟩; have HX1 := Lib.hid (HX.out w1 hR1); have HF1 := Lib.hid hF1; clear hR1 hF1) | (go_at_call 72; refine HX1.out.mono ?_; rintro e w2 ⟨u, rfl, hu, hR2, hF2⟩; obtain ⟨A, c, rfl⟩ := own_slice hu; have HU := Lib.hid hu; have HF2 := Lib.hid hF2; have HR2 := Lib.hid hR2; clear hu hR2 hF2))
      go_loopw [10, 11] (fun l i wr => ∃ k : Nat, k ≤ n ∧ i = .int .i64 k ∧ wr.ownsRow w2.heap.size 3 1 l k (nums .i64 ((tys B).take k)) ∧ Below w2.heap.size w2 wr) (fun _ i _ => n - (intOf i).toNat)
      case atStart => exact ⟨0, by omega, rfl, World.ownsRow_nil _ _ _ _, Below.refl _ _⟩
      case round =>
        obtain ⟨k, hk, rfl, hown, hbw⟩ := hrel
        obtain ⟨A1, c1, rfl⟩ := own_slice hown
        by_cases hp : k < n
        · have hp2 : (k : Int) < (n : Int) := by omega
          have hU := own_CB (pw_own_below HU.out hbw)
          obtain ⟨ad, rfl, e1⟩ := Kd.at_int hU.2.2 ((k / 4 : Nat) : Int) (by omega) (by omega)
          rw [Int.toNat_natCast] at e1
          obtain ⟨hb0, hb1⟩ := HM.out (rd B ((k / 4 : Nat) : Int)) (List.mem_of_getElem? (rd_mem (by omega)))
          obtain ⟨q, r, hr4, hqr⟩ : ∃ q r : Nat, r < 4 ∧ k = 4 * q + r := ⟨k / 4, k % 4, by omega, by omega⟩
          have htk : (tys B).take (k + 1) = (tys B).take k ++ [tyAt B k] := by
            rw [List.take_add_one, tys, List.getElem?_map, List.getElem?_range (by omega)]; rfl
          have hrun := tyAt_run B k hb0
          have hkq : k / 4 = q := by omega
          have hkr : k % 4 = r := by omega
          rw [hkq] at hb0 hb1 e1 hrun
          rw [hkr] at hrun
          have hq1 : (k : Int) / 4 = (q : Int) := by omega
          have hq2 : (k : Int).tdiv 4 = (q : Int) := by rw [Int.tdiv_eq_ediv_of_nonneg (by omega)]; exact hq1
          have hr1 : (k : Int) % 4 = (r : Int) := by omega
          have hr2 : (k : Int).tmod 4 = (r : Int) := by rw [Int.tmod_eq_emod_of_nonneg (by omega)]; exact hr1
          have hqB : q < B.length := by omega
          obtain ⟨b, hb⟩ : ∃ b, rd B (q : Int) = b := ⟨_, rfl⟩
          rw [hb] at hb0 hb1 e1 hrun
          have hq0 : (0 : Int) ≤ (q : Int) := by omega
          have hr0 : (0 : Int) ≤ (r : Int) := by omega
          have hqm : (q : Int) < (((n + 3) / 4 : Nat) : Int) := by omega
          have HTK := Lib.hid htk
          have HOWN := Lib.hid hown
          have HBW := Lib.hid hbw
          have HRUN := Lib.hid hrun
          have HB01 := Lib.hid (And.intro hb0 hb1)
          clear hb htk hown hbw hrun hU hqr hkq hkr hBl
          go_wp2
          clear hb0 hb1
          go_loop [12, 13] (fun x i => ∃ (j : Nat) (y : Int), j ≤ r ∧ i = .int .i64 j ∧ x = .int .i64 y ∧ 0 ≤ y ∧ y ≤ 255 ∧ Aside0 (y = b / 4 ^ j)) (fun _ i => r - (intOf i).toNat)
          case atStart => exact ⟨0, b, by omega, rfl, rfl, HB01.out.1, HB01.out.2, Aside0.mk (by simp)⟩
          case round =>
            obtain ⟨j, y, hj, rfl, rfl, hy0, hy1, HY⟩ := hrel
            by_cases hjr : j < r
            · have hjr2 : (j : Int) < (r : Int) := by omega
              go_wp2
              go_round
              case rel => exact ⟨j + 1, y / 4, by omega, by go_num, rfl, by omega, by omega, Aside0.mk (by rw [HY.out]; exact quo_pow b j)⟩
              case measure => simp [intOf]; omega
            · obtain rfl : j = r := by omega
              have hjr2 : ¬ (j : Int) < (j : Int) := by omega
              have hk64 : k ≤ 64 := by omega
              go_wp2_with (at_builtin; refine wpList_append_own _ rfl _ _ 22 rfl w2.heap.size 3 i0 (.int .i64 0) 1 8 Try.underlying22 hi0 hz0 hz1 hz2 rfl (by decide) _ _ _ rfl (HOWN.out.alloc _) ⟨wr.heap.size, 0, none⟩ 1 1 [.int .i64 (y % 4 + 1)] rfl rfl (cell_one_at _ _ _ rfl) (by simp [Value.oneCell']) (by unfold maxLen; omega) (by omega) (by have := HBW.out.size; simp; omega) ?_; intro o2 w4 hown4 hg4 _; have HO4 := Lib.hid hown4; have HG4 := Lib.hid hg4; clear hown4 hg4)
              go_roundw
              case rel =>
                have e := HRUN.out
                rw [← HY.out] at e
                have hbA := below_then HBW.out HBW.out.size (below_alloc (Below.refl _ wr) (.cells #[.int .i64 (y % 4 + 1)] 3))
                exact ⟨k + 1, by omega, by go_num, by rw [HTK.out, nums_append, ← e]; exact HO4.out, hbA.grown HG4.out hbA.size (fun j hj => own_base HOWN.out j hj)⟩
              case measure => simp [intOf]; omega
        · obtain rfl : n = k := by omega
          have hp2 : ¬ (n : Int) < (n : Int) := by omega
          obtain ⟨ys, hys⟩ : ∃ ys, ys = (tys B).take n := ⟨_, rfl⟩
          rw [← hys] at hown
          have hyl : ys.length = n := by rw [hys, List.length_take, tys_length]; omega
          have hy14 : ∀ x ∈ ys, 1 ≤ x ∧ x ≤ 4 := fun x hx => mem_tys (hys ▸ hx)
          have hbB := bytes_B B n (by omega) hBl hn64 (fun x hx => HM.out x hx)
          rw [← hys] at hbB
          obtain ⟨m, hm⟩ : ∃ m, (n + 3) / 4 = m := ⟨_, rfl⟩
          have hpl : (bytesL ys).length = m := by unfold bytesL; rw [List.length_take, arrL_length, hyl]; omega
          have hel := (VP.wid_pos ys.length).2
          rw [← encI_length] at hel
          have HTy := Lib.hid (backstayref06_Types.calls 2000 A1 c1 ys (packL ys) wr (by have := own_CI (show wr.ownsRow w2.heap.size 3 1 (.slice A1 n c1) ys.length (nums .i64 ys) by rw [hyl]; exact hown); exact this.2.2) (by have := own_CI (show wr.ownsRow w2.heap.size 3 1 (.slice A1 n c1) ys.length (nums .i64 ys) by rw [hyl]; exact hown); omega) (types_f ys hy14 (by omega)))
          rw [hyl] at HTy
          have hown2 : wr.ownsRow w2.heap.size 3 1 (.slice A1 n c1) ys.length (nums .i64 ys) := by rw [hyl]; exact hown
          obtain ⟨E, hE⟩ : ∃ E, encI ys.length = E := ⟨_, rfl⟩
          obtain ⟨PB, hPB⟩ : ∃ PB, bytesL ys = PB := ⟨_, rfl⟩
          have hpb8 : ∀ x ∈ PB, 0 ≤ x ∧ x ≤ 255 := fun x hx => mem_bytesL hy14 (hPB ▸ hx)
          have hpk : packL ys = E ++ PB := by unfold packL; rw [hE, hPB]
          rw [hpk] at HTy
          rw [hE] at hel
          rw [hPB] at hpl hbB
          have hqe := strNums_beq PB B hpb8 (fun x hx => HM.out x hx)
          have hkr : ((!((strOfNums PB).toList == (strOfNums B).toList)) = !(tysB B n)) ∧ (((strOfNums PB).toList == (strOfNums B).toList) = tysB B n) := by
            have : ((strOfNums PB).toList == (strOfNums B).toList) = tysB B n := by rw [hqe, Bool.eq_iff_iff, decide_eq_true_iff]; exact hbB
            exact ⟨by rw [this], this⟩
          have HBC := Lib.hid (own_CB HU.out)
          obtain ⟨zs, hzs⟩ : ∃ zs, E ++ PB = zs := ⟨_, rfl⟩
          obtain ⟨L, hL⟩ : ∃ L, zs.length = L := ⟨_, rfl⟩
          obtain ⟨a, ha⟩ : ∃ a, E.length = a := ⟨_, rfl⟩
          have hLe : L = a + m := by rw [← hL, ← hzs, List.length_append]; omega
          rw [hzs] at HTy
          have hdrop : (zs.take L).drop a = PB := by rw [← hL, List.take_length, ← hzs, ← ha, List.drop_left]
          have hsub : (L : Int) - (m : Int) = (a : Int) := by omega
          have hsubw : IntKind.i64.wrap ((L : Int) - (m : Int)) = (a : Int) := by rw [hsub, IntKind.wrap_i64]; omega
          have hwa : IntKind.i64.wrap (a : Int) = a := by rw [IntKind.wrap_i64]; omega
          have HLE := Lib.hid hLe
          have HL := Lib.hid hL
          have HDR := Lib.hid hdrop
          rw [hm] at hBl
          have HBl := Lib.hid hBl
          have HPL := Lib.hid hpl
          clear hL ha hLe hdrop hzs hBl hpl hel
          have HYS := Lib.hid hys
          have HYL := Lib.hid hyl
          have HO := Lib.hid hown2
          have HBW := Lib.hid hbw
          rw [hm]
          clear hys hown hown2 hy14 hbB hbw hpb8 hPB hE hpk hqe hyl
          go_wp2_with (go_at_call 44; refine HTy.out.mono ?_; rintro e w5 ⟨v5, rfl, hR5, hb5⟩; have hO5 := Kd.own_of_R hR5; rw [HL.out] at hO5; obtain ⟨A5, c5, rfl⟩ := own_slice hO5; have HO5 := Lib.hid hO5; have HB5 := Lib.hid hb5; clear hR5 hO5 hb5)
          have hcc5 := (row_C (show w5.ownsRow wr.heap.size 5 1 (.slice A5 L c5) zs.length (nums .u8 zs) by rw [HL.out]; exact HO5.out))
          have hcut := cut_from (P := Try.prog) 23 5 .i64 Try.underlying23 hib 1 hib1 A5 L c5 (a : Int) (by omega) (by have := HLE.out; omega)
          rw [Int.toNat_natCast] at hcut
          obtain ⟨A6, hA6⟩ : ∃ A6, (if c5 = a then A5 else A5.map (·.add (a * 1))) = A6 := ⟨_, rfl⟩
          have hLa : L - a = m := by have := HLE.out; omega
          rw [hA6, hLa] at hcut
          have hC6 : ∀ W, (Kd.int .u8).C W A5 L zs → (Kd.int .u8).C W A6 m PB := fun W hCz => by
            rw [← HL.out] at hCz
            have h6 := Kd.C_mid hCz (lo := a) (hi := L) (by have := HLE.out; omega) (by rw [HL.out]; exact Nat.le_refl _) (by rw [HL.out]; exact hcc5.2.1)
            rw [HDR.out, HPL.out] at h6
            rw [← hA6]
            exact h6
          have hcv1 : ∀ k, (convert 23 9 (.slice A6 m (c5 - a))).run Try.prog (w5.drewN k) = .ok (.string (strOfNums PB)) (w5.drewN k) := fun k => string_read (hC6 _ (Kd.C_below (by have := hcc5.2.2; rw [HL.out] at this; exact this) (pw_below_drewN (Below.refl _ _) k)))
          have hcv2 : ∀ k, (convert 23 9 (.slice A m c)).run Try.prog (w5.drewN k) = .ok (.string (strOfNums B)) (w5.drewN k) := fun k => string_read (by have := (HBC.out).2.2; rw [HBl.out] at this; exact Kd.C_below (Kd.C_below this (HBW.out.trans (HB5.out.mono HBW.out.size))) (pw_below_drewN (Below.refl _ _) k))
          clear hA6 hLa hC6 hcc5
          go_quiet (fail)
          go_wp2
          go_ret2
          have hbz := pw_below_drewN (Below.refl w5.heap.size w5) nq
          have hb25 := HBW.out.trans (HB5.out.mono HBW.out.size)
          have hbz2 : Below w2.heap.size w2 (w5.drewN nq) := hb25.trans (hbz.mono hb25.size)
          have ho := pw_own_below (pw_own_below HO.out HB5.out) hbz
          have hle2 := (HF1.out.trans HF2.out (fun _ _ h => h)).size
          exact ⟨_, ys, _, rfl, by have := HYL.out; omega, own_less (by rw [HYL.out]; rw [HYL.out] at ho; exact ho) hle2, HR2.out.below hbz2, fun h => by rw [HRS.out h]; exact ⟨HYS.out, by omega⟩, (HF1.out.trans HF2.out (fun _ _ h => h)).trans (T := fun _ => False) (Fr.of_below hbz2) (fun _ _ h => h.elim)⟩
end Go.Proofs.Ytacmajlbaenjfaa

/- The document's Decode; Reels side by side. -/
namespace Go.Proofs.Ytacmajlbaenjfaa
open Go.RowKit Go.Shelf Go.Proofs.YtacmajlbaenjfaaW.PrintWords Go.Proofs.YtacmajlbaenjfaaW.PrintLast Go.Proofs.YtacmajlbaenjfaaW.PrintMore
open Go.Proofs.Ytacmajlbaenjfaa.PRef

theorem drawn0_below {w w' : World} (h : Drawn0 w w') : Below w.heap.size w w' := by
  exact h.below
theorem check23_yes (W : World) (A : Option Addr) (c : Nat) (xs : List Int) (hC : (Kd.int .i64).C W A xs.length xs) (hc : xs.length ≤ c) (hl : xs.length ≤ 1000) (h : shapeOk xs = true) :
    Calls Try.prog 23 #[.slice A xs.length c] W fun e w' => e = .returned (.int .i64 0) ∧ Below W.heap.size W w' :=
  (backstayref06_Check.calls 2000 A c xs 0 W hC hc (by rw [check_f xs hl, if_pos h])).mono fun _ _ ⟨a, b⟩ => ⟨a, drawn0_below b⟩
theorem check23_no (W : World) (A : Option Addr) (c : Nat) (xs : List Int) (hC : (Kd.int .i64).C W A xs.length xs) (hc : xs.length ≤ c) (hl : xs.length ≤ 1000) (h : shapeOk xs = false) :
    Calls Try.prog 23 #[.slice A xs.length c] W fun e w' => e = .returned (.int .i64 60) ∧ Below W.heap.size W w' :=
  (backstayref06_Check.calls 2000 A c xs 60 W hC hc (by rw [check_f xs hl, if_neg (by rw [h]; decide)])).mono fun _ _ ⟨a, b⟩ => ⟨a, drawn0_below b⟩

theorem ReelIs.fr {S : Nat → Prop} {w W : World} {g base p : Nat} {v : Value} {bs : List Int} (h : ReelIs w g base v bs p) (hF : Fr S w W) (hg : ¬ S g) (hn : ∀ b, v.ownBlock = some b → ¬ S b) : ReelIs W g base v bs p :=
  ⟨(hF.block g (blk_lt h.blk) hg).trans h.blk, own_fr h.own hF hn, h.le, h.small, h.bytes⟩
theorem RefIs.fr {S : Nat → Prop} {w W : World} {g base p : Nat} {v : Value} {bs : List Int} (h : RefIs w g base v bs p) (hF : Fr S w W) (hg : ¬ S g) (hn : ∀ b, v.ownBlock = some b → ¬ S b) : RefIs W g base v bs p :=
  ⟨(hF.block g (blk_lt h.blk) hg).trans h.blk, own_fr h.own hF hn, h.le, h.small, h.bytes⟩
/-- Two Reels in one world are apart. -/
theorem reel_ref_ne {W : World} {g h b1 b2 p q : Nat} {rv sv : Value} {bs cs : List Int} (h1 : ReelIs W g b1 rv bs p) (h2 : RefIs W h b2 sv cs q) : g ≠ h := by
  rintro rfl
  have := h1.blk.symm.trans h2.blk
  cases this
theorem ref_after {W W' : World} {g h b1 b2 p q : Nat} {rv sv : Value} {bs cs : List Int} (h1 : ReelIs W g b1 rv bs p) (h2 : RefIs W h b2 sv cs q) (hF : Fr (fun i => i = g) W W') : RefIs W' h b2 sv cs q :=
  h2.fr hF (fun e => reel_ref_ne h1 h2 e.symm) (fun b hb e => by subst e; exact own_ne h2.own h1.blk (by decide) hb.symm)
theorem reel_after {W W' : World} {g h b1 b2 p q : Nat} {rv sv : Value} {bs cs : List Int} (h1 : ReelIs W g b1 rv bs p) (h2 : RefIs W h b2 sv cs q) (hF : Fr (fun i => i = h) W W') : ReelIs W' g b1 rv bs p :=
  h1.fr hF (fun e => reel_ref_ne h1 h2 e) (fun b hb e => by subst e; exact own_ne h1.own h2.blk (by decide) hb.symm)

set_option maxRecDepth 100000 in
set_option maxHeartbeats 1000000 in
theorem Decode15_any (w : World) (g base : Nat) (v : Value) (bs : List Int) (p : Nat) (hR : RefIs w g base v bs p) (hsm : bs.length < 140737488355328) :
    Calls Try.prog 15 #[.pointer (some ⟨g, 0, none⟩)] w fun e w' => ∃ u q, e = .returned (.tuple #[u, .int .i64 (decSh bs p).2.1]) ∧
      w'.ownsRow w.heap.size 3 1 u (decSh bs p).1.length (nums .i64 (decSh bs p).1) ∧ RefIs w' g base v bs q ∧ ((decSh bs p).2.1 = 0 → q = p + (decSh bs p).2.2) ∧ Fr (fun i => i = g) w w' := by
  have hk := read47_any w g base v bs p 16 (by omega) (by omega) hR hsm
  cases h1 : (typesR bs p 16).1
  · have e : decSh bs p = ([], 60, (typesR bs p 16).2.2) := by unfold decSh; rw [if_neg (fun h => by rw [h1] at h; cases h.1)]
    rw [e]
    rw [h1] at hk
    generalize (typesR bs p 16).2.1 = xs at *
    generalize (typesR bs p 16).2.2 = mv at *
    have HK := Lib.hid hk
    clear hk h1 e hR
    go_enter Try.func15, Try.ntmps15
    go_wp2_with (go_at_call 47; refine HK.out.mono ?_; rintro e w1 ⟨u, ys, q, rfl, hl, hu, hr, _, hf⟩; obtain ⟨A, c, rfl⟩ := own_slice hu; have HR := Lib.hid hr; have HF := Lib.hid hf; clear hl hu hr hf)
    go_ret2
    exact ⟨_, q, rfl, World.ownsRow_nil _ _ _ _, HR.out, fun h => absurd h (by decide), HF.out⟩
  · by_cases h2 : shapeOk (typesR bs p 16).2.1 = true
    · have e : decSh bs p = ((typesR bs p 16).2.1, 0, (typesR bs p 16).2.2) := by unfold decSh; rw [if_pos ⟨h1, h2⟩]
      rw [e]
      rw [h1] at hk
      generalize (typesR bs p 16).2.1 = xs at *
      generalize (typesR bs p 16).2.2 = mv at *
      have HK := Lib.hid hk
      have HS := Lib.hid h2
      clear hk h1 e h2 hR
      go_enter Try.func15, Try.ntmps15
      go_wp2_with (first | (go_at_call 47; refine HK.out.mono ?_; rintro e w1 ⟨u, ys, q, rfl, hl, hu, hr, hy, hf⟩; obtain ⟨rfl, hq⟩ := hy rfl; obtain ⟨A, c, rfl⟩ := own_slice hu; have HU := Lib.hid hu; have HR := Lib.hid hr; have HF := Lib.hid hf; have HQ := Lib.hid hq; have hk2 := check23_yes w1 A c ys (own_CI hu).2.2 (own_CI hu).2.1 (by omega) HS.out; have HK2 := Lib.hid hk2; clear hu hr hf hk2 hy hq hl) | (go_at_call 23; refine HK2.out.mono ?_; rintro e w2 ⟨rfl, hb⟩; have HB2 := Lib.hid hb; clear hb))
      go_ret2
      exact ⟨_, q, rfl, pw_own_below HU.out HB2.out, HR.out.below HB2.out, fun _ => HQ.out, HF.out.trans (T := fun _ => False) (Fr.of_below HB2.out) (fun _ _ h => h.elim)⟩
    · have e : decSh bs p = ([], 60, (typesR bs p 16).2.2) := by unfold decSh; rw [if_neg (fun h => h2 h.2)]
      rw [e]
      rw [h1] at hk
      have h2 : shapeOk (typesR bs p 16).2.1 = false := by simpa using h2
      generalize (typesR bs p 16).2.1 = xs at *
      generalize (typesR bs p 16).2.2 = mv at *
      have HK := Lib.hid hk
      have HS := Lib.hid h2
      clear hk h1 e h2 hR
      go_enter Try.func15, Try.ntmps15
      go_wp2_with (first | (go_at_call 47; refine HK.out.mono ?_; rintro e w1 ⟨u, ys, q, rfl, hl, hu, hr, hy, hf⟩; obtain ⟨rfl, hq⟩ := hy rfl; obtain ⟨A, c, rfl⟩ := own_slice hu; have HR := Lib.hid hr; have HF := Lib.hid hf; have hk2 := check23_no w1 A c ys (own_CI hu).2.2 (own_CI hu).2.1 (by omega) HS.out; have HK2 := Lib.hid hk2; clear hu hr hf hk2 hy hq hl) | (go_at_call 23; refine HK2.out.mono ?_; rintro e w2 ⟨rfl, hb⟩; have HB2 := Lib.hid hb; clear hb))
      go_ret2
      exact ⟨_, q, rfl, World.ownsRow_nil _ _ _ _, HR.out.below HB2.out, fun h => absurd h (by decide), HF.out.trans (T := fun _ => False) (Fr.of_below HB2.out) (fun _ _ h => h.elim)⟩
end Go.Proofs.Ytacmajlbaenjfaa
