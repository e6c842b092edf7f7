/- Plain laws of the stage's theorem: what is written is read as it was; what is read has just these bytes, and this text. -/
import Derived.Test.YtacmajlbaenjfaaSx
namespace Go.Proofs.Ytacmajlbaenjfaa
open Go.RowKit Go.Shelf Go.Proofs.YtacmajlbaenjfaaW.PrintWords Go.Proofs.YtacmajlbaenjfaaW.PrintLast Go.Proofs.YtacmajlbaenjfaaW.PrintMore

theorem rest_of {bs : List Int} {p n : Nat} {T : List Int} (h : bs.drop p = encI n ++ T) : rest bs p = VP.enc n ++ T.map Int.toNat := by
  unfold rest
  rw [h, List.map_append]
  congr 1
  unfold encI
  rw [List.map_map]
  refine (List.map_congr_left fun b _ => ?_).trans (List.map_id _)
  simp
/-- What stands there is the number's bytes. -/
theorem readN_at {bs : List Int} {p n : Nat} {T : List Int} {most : Int} (h : bs.drop p = encI n ++ T) (hn : n < 18446744073709551616) (hm : (n : Int) ≤ most) : readN (rest bs p) most = (n, 0, VP.wid n) := by
  unfold readN
  rw [rest_of h, look_enc n hn]
  simp only
  rw [if_pos trivial, if_neg (by omega)]
theorem readR_at {bs : List Int} {p m : Nat} {B T : List Int} (h : bs.drop p = B ++ T) (hm : B.length = m) (hp : p ≤ bs.length) : readR bs p m = (B, 0, m) := by
  have hl : p + m ≤ bs.length := by
    have := congrArg List.length h
    rw [List.length_drop, List.length_append] at this
    omega
  unfold readR
  rw [if_neg (by omega), if_neg (by omega), Int.toNat_natCast]
  have e : (bs.take (p + m)).drop p = B := by
    rw [List.drop_take, Nat.add_sub_cancel_left, h, ← hm, List.take_left]
  rw [e]
theorem pk_all (xs : List Int) (hk : ∀ x ∈ xs, 1 ≤ x ∧ x ≤ 4) {j i : Nat} (hi : i < 4) : pk xs xs.length j / 2 ^ (2 * i) % 4 = if 4 * j + i < xs.length then rd xs ((4 * j + i : Nat) : Int) - 1 else 0 := by
  have hs : ∀ i, i < 4 → ∃ y : Int, sh xs xs.length j i = y * 4 ^ i ∧ 0 ≤ y ∧ y ≤ 3 ∧ y = if 4 * j + i < xs.length then rd xs ((4 * j + i : Nat) : Int) - 1 else 0 := by
    intro i _
    unfold sh
    by_cases h : 4 * j + i < xs.length
    · have := hk _ (List.mem_of_getElem? (rd_mem h))
      rw [if_pos h]
      exact ⟨_, rfl, by omega, by omega, by rw [if_pos h]⟩
    · rw [if_neg h]
      exact ⟨0, by simp, by omega, by omega, by rw [if_neg h]⟩
  obtain ⟨y0, e0, a0, b0, f0⟩ := hs 0 (by omega)
  obtain ⟨y1, e1, a1, b1, f1⟩ := hs 1 (by omega)
  obtain ⟨y2, e2, a2, b2, f2⟩ := hs 2 (by omega)
  obtain ⟨y3, e3, a3, b3, f3⟩ := hs 3 (by omega)
  unfold pk
  rw [e0, e1, e2, e3]
  simp only [Int.pow_zero, Int.reducePow, Int.mul_one]
  have : i = 0 ∨ i = 1 ∨ i = 2 ∨ i = 3 := by omega
  rcases this with rfl | rfl | rfl | rfl
  · rw [← f0]; simp only [Nat.mul_zero, Int.pow_zero]; omega
  · rw [← f1]; simp only [Nat.mul_one, Int.reducePow]; omega
  · rw [← f2]; simp only [Nat.reduceMul, Int.reducePow]; omega
  · rw [← f3]; simp only [Nat.reduceMul, Int.reducePow]; omega
theorem bytesL_len (xs : List Int) (hl : xs.length ≤ 64) : (bytesL xs).length = (xs.length + 3) / 4 := by
  unfold bytesL
  rw [List.length_take, arrL_length]
  omega
theorem rd_bytesL (xs : List Int) (hl : xs.length ≤ 64) {j : Nat} (hj : j < (xs.length + 3) / 4) : rd (bytesL xs) (j : Int) = pk xs xs.length j := by
  have h := rd_mem (xs := bytesL xs) (k := j) (by rw [bytesL_len xs hl]; exact hj)
  unfold bytesL at h ⊢
  rw [List.getElem?_take_of_lt hj, arrL_at xs _ (by omega)] at h
  exact (Option.some.inj h).symm
theorem tyAt_bytes (xs : List Int) (hk : ∀ x ∈ xs, 1 ≤ x ∧ x ≤ 4) (hl : xs.length ≤ 64) {i : Nat} (hi : i < 4 * ((xs.length + 3) / 4)) : tyAt (bytesL xs) i = if i < xs.length then rd xs (i : Int) else 1 := by
  unfold tyAt
  rw [rd_bytesL xs hl (by omega), pk_all xs hk (by omega), show 4 * (i / 4) + i % 4 = i by omega]
  split <;> omega
theorem tysB_bytes (xs : List Int) (hk : ∀ x ∈ xs, 1 ≤ x ∧ x ≤ 4) (hl : xs.length ≤ 64) : tysB (bytesL xs) xs.length = true := by
  unfold tysB
  rw [List.all_eq_true]
  intro i hi
  have hi2 := List.mem_range.1 hi
  rw [bytesL_len xs hl] at hi2
  unfold tyOk
  rw [tyAt_bytes xs hk hl hi2]
  by_cases h : i < xs.length
  · rw [decide_eq_true (by omega)]; rfl
  · rw [if_neg h]; simp
theorem tys_bytes (xs : List Int) (hk : ∀ x ∈ xs, 1 ≤ x ∧ x ≤ 4) (hl : xs.length ≤ 64) : (tys (bytesL xs)).take xs.length = xs := by
  apply List.ext_getElem?
  intro i
  by_cases h : i < xs.length
  · rw [List.getElem?_take_of_lt h]
    unfold tys
    rw [List.getElem?_map, List.getElem?_range (by rw [bytesL_len xs hl]; omega), rd_mem h]
    show some (tyAt (bytesL xs) i) = _
    rw [tyAt_bytes xs hk hl (by omega), if_pos h]
  · rw [List.getElem?_eq_none (by rw [List.length_take]; omega), List.getElem?_eq_none (by omega)]
/-- Types' bytes are read as the types that they are of. -/
theorem typesR_at {bs : List Int} {p : Nat} {xs T : List Int} {most : Int} (h : bs.drop p = packL xs ++ T) (hk : ∀ x ∈ xs, 1 ≤ x ∧ x ≤ 4) (hl : (xs.length : Int) ≤ most) (h64 : most ≤ 64) : typesR bs p most = (true, xs, (packL xs).length) := by
  have hwp := (VP.wid_pos xs.length).1
  have hx : xs.length ≤ 64 := by omega
  unfold packL at h
  rw [List.append_assoc] at h
  have hr := readN_at (most := most) h (by omega) hl
  have hd : bs.drop (p + VP.wid xs.length) = bytesL xs ++ T := by
    rw [← List.drop_drop, h, ← encI_length, List.drop_left]
  have hpl : p + VP.wid xs.length ≤ bs.length := by
    have := congrArg List.length h
    rw [List.length_drop, List.length_append, encI_length] at this
    omega
  have hq := readR_at hd (bytesL_len xs hx) hpl
  unfold typesR
  rw [hr]
  simp only
  rw [hq]
  simp only
  rw [if_pos trivial, if_pos ⟨trivial, tysB_bytes xs hk hx⟩, tys_bytes xs hk hx]
  unfold packL
  rw [List.length_append, encI_length, bytesL_len xs hx]
/-- What is read of bytes has just these bytes. -/
theorem typesR_bytes {bs : List Int} {p : Nat} {most : Int} (hb : ∀ b ∈ bs, 0 ≤ b ∧ b ≤ 255) (h64 : most ≤ 64) (h : (typesR bs p most).1 = true) :
    packL (typesR bs p most).2.1 = (bs.take (p + (typesR bs p most).2.2)).drop p := by
  unfold typesR at h ⊢
  by_cases h1 : (readN (rest bs p) most).2.1 = 0
  · rw [if_pos h1] at h ⊢
    by_cases h2 : (readR bs (p + (readN (rest bs p) most).2.2) (((readN (rest bs p) most).1 + 3) / 4 : Nat)).2.1 = 0 ∧ tysB (readR bs (p + (readN (rest bs p) most).2.2) (((readN (rest bs p) most).1 + 3) / 4 : Nat)).1 (readN (rest bs p) most).1 = true
    · rw [if_pos h2]
      have hm := readN_most h1
      have hrl := readR_len h2.1
      have hlk : (look (rest bs p)).2.2 = 0 ∧ readN (rest bs p) most = ((look (rest bs p)).1, 0, (look (rest bs p)).2.1) := by
        unfold readN at h1 ⊢
        by_cases he : (look (rest bs p)).2.2 = 0
        · rw [if_pos he] at h1 ⊢
          by_cases hlt : most < (look (rest bs p)).1
          · rw [if_pos hlt] at h1; simp at h1
          · rw [if_neg hlt]; exact ⟨he, rfl⟩
        · rw [if_neg he] at h1; exact absurd h1 he
      have hbm := fun b h => hb b (readR_mem (bs := bs) (p := p + (readN (rest bs p) most).2.2) (n := ((readN (rest bs p) most).1 + 3) / 4) h)
      have hlb := look_bytes bs p hb hlk.1
      obtain ⟨_, hl2⟩ := hlk
      rw [hl2] at h2 hm hrl hbm ⊢
      simp only at h2 hm hrl hbm ⊢
      clear h1 h hl2
      generalize (look (rest bs p)).1 = n at *
      generalize (look (rest bs p)).2.1 = k at *
      have hrr : (readR bs (p + k) ((n + 3) / 4 : Nat)).1 = (bs.take (p + k + (n + 3) / 4)).drop (p + k) ∧ (readR bs (p + k) ((n + 3) / 4 : Nat)).2.2 = (n + 3) / 4 := by
        have h3 := h2.1
        unfold readR at h3 ⊢
        rw [if_neg (by omega)] at h3 ⊢
        by_cases h4 : (bs.length : Int) - ((p + k : Nat) : Int) < ((n + 3) / 4 : Nat)
        · rw [if_pos h4] at h3; simp at h3
        · rw [if_neg h4, Int.toNat_natCast]; exact ⟨rfl, rfl⟩
      rw [hrr.2]
      obtain ⟨B, hB⟩ : ∃ B, (readR bs (p + k) ((n + 3) / 4 : Nat)).1 = B := ⟨_, rfl⟩
      rw [hB] at hrr hrl hbm h2 ⊢
      have hbB := (bytes_B B n (by omega) (by omega) (by omega) hbm).2 h2.2
      have hl : ((tys B).take n).length = n := by rw [List.length_take, tys_length]; omega
      unfold packL
      rw [hl, hbB, hrr.1, ← hlb.1]
      have e1 : (bs.take (p + k)).drop p = ((bs.take (p + (k + (n + 3) / 4))).drop p).take k := by
        rw [List.drop_take, List.drop_take, List.take_take]
        congr 1
        omega
      have e2 : (bs.take (p + k + (n + 3) / 4)).drop (p + k) = ((bs.take (p + (k + (n + 3) / 4))).drop p).drop k := by
        rw [List.drop_drop, Nat.add_assoc]
      rw [e1, e2, List.take_append_drop]
    · rw [if_neg h2] at h; cases h
  · rw [if_neg h1] at h; cases h

theorem ltT_ltr : ∀ t : Int, 1 ≤ t → t ≤ 4 → ltT (ltr t) = t ∧ ltB (ltr t) = true ∧ ltr t ≠ 62 := by
  intro t h1 h4
  have : t = 1 ∨ t = 2 ∨ t = 3 ∨ t = 4 := by omega
  rcases this with rfl | rfl | rfl | rfl <;> decide +kernel
theorem ltr_ltT : ∀ b : UInt8, ltB b = true → ltr (ltT b) = b ∧ 1 ≤ ltT b ∧ ltT b ≤ 4 := by
  intro b
  have h : ∀ n : Fin 256, ltB (UInt8.ofNat n.val) = true → ltr (ltT (UInt8.ofNat n.val)) = UInt8.ofNat n.val ∧ 1 ≤ ltT (UInt8.ofNat n.val) ∧ ltT (UInt8.ofNat n.val) ≤ 4 := by decide +kernel
  have := h ⟨b.toNat, b.toNat_lt⟩
  simpa using this
theorem known_bd {t : Int} (h1 : 1 ≤ t) (h4 : t ≤ 4) : knownT t = true := by
  unfold knownT; simp; omega
theorem textL_known {xs : List Int} (hk : ∀ x ∈ xs, 1 ≤ x ∧ x ≤ 4) (hl : xs.length ≤ 1024) : textL xs = xs.map ltr := by
  unfold textL
  rw [if_pos ⟨List.all_eq_true.2 (fun x hx => known_bd (hk x hx).1 (hk x hx).2), hl⟩]
theorem typesT_text {xs : List Int} (hk : ∀ x ∈ xs, 1 ≤ x ∧ x ≤ 4) (hl : xs.length ≤ 1024) : typesT (textL xs) = (xs, 0) := by
  rw [textL_known hk hl]
  unfold typesT tyL
  rw [if_pos ⟨by rw [List.all_map, List.all_eq_true]; exact fun x hx => (ltT_ltr x (hk x hx).1 (hk x hx).2).2.1, by rw [List.length_map]; exact hl⟩, List.map_map]
  congr 1
  refine (List.map_congr_left fun x hx => ?_).trans (List.map_id _)
  exact (ltT_ltr x (hk x hx).1 (hk x hx).2).1
theorem textL_types {l : List UInt8} (h : (typesT l).2 = 0) : textL (typesT l).1 = l ∧ ∀ x ∈ (typesT l).1, 1 ≤ x ∧ x ≤ 4 := by
  unfold typesT at h ⊢
  by_cases h1 : l.all ltB = true ∧ l.length ≤ 1024
  · rw [if_pos h1]
    have hm : ∀ x ∈ tyL l, 1 ≤ x ∧ x ≤ 4 := fun x hx => by
      unfold tyL at hx
      obtain ⟨b, hb, rfl⟩ := List.mem_map.1 hx
      exact (ltr_ltT b (List.all_eq_true.1 h1.1 b hb)).2
    refine ⟨?_, hm⟩
    show textL (tyL l) = l
    rw [textL_known hm (by unfold tyL; rw [List.length_map]; exact h1.2)]
    unfold tyL
    rw [List.map_map]
    refine (List.map_congr_left fun b hb => ?_).trans (List.map_id _)
    exact (ltr_ltT b (List.all_eq_true.1 h1.1 b hb)).1
  · rw [if_neg h1] at h; simp at h

/-- A shape's bytes, and text, are read as the shape; they have the length that is said. -/
theorem shape_back {xs : List Int} (h : shapeOk xs = true) (T : List Int) : decSh ((encSh xs).1 ++ T) 0 = (xs, 0, (encSh xs).1.length) ∧ (encSh xs).2 = 0 ∧ (encSh xs).1.length = 1 + (xs.length + 3) / 4 := by
  have hl := shapeOk_len h
  have hk : ∀ x ∈ xs, 1 ≤ x ∧ x ≤ 4 := fun x hx => by have := shapeOk_mem h x hx; omega
  have he : encSh xs = (packL xs, 0) := by unfold encSh; rw [if_pos h]
  rw [he]
  refine ⟨?_, rfl, ?_⟩
  · have ht := typesR_at (bs := packL xs ++ T) (p := 0) (most := 16) (by rw [List.drop_zero]) hk (by omega) (by omega)
    show decSh (packL xs ++ T) 0 = (xs, 0, (packL xs).length)
    unfold decSh
    rw [ht]
    simp only
    rw [if_pos ⟨trivial, h⟩]
  · show (packL xs).length = _
    unfold packL
    rw [List.length_append, encI_length, bytesL_len xs (by omega)]
    congr 1
    unfold VP.wid
    rw [if_pos (by omega)]
theorem shape_text {xs : List Int} (h : shapeOk xs = true) : readSh (showSh xs) = (xs, 0) := by
  have hl := shapeOk_len h
  have hk : ∀ x ∈ xs, 1 ≤ x ∧ x ≤ 4 := fun x hx => by have := shapeOk_mem h x hx; omega
  have hs : showSh xs = textL xs := by unfold showSh; rw [if_pos h]
  rw [hs]
  unfold readSh
  rw [typesT_text hk (by omega), if_pos ⟨by trivial, h⟩]
theorem encSh_err {xs : List Int} : (encSh xs).2 = 0 ↔ shapeOk xs = true := by
  unfold encSh
  split
  · simp [*]
  · rename_i h; simp [h]
theorem shape_read {bs : List Int} (hb : ∀ b ∈ bs, 0 ≤ b ∧ b ≤ 255) (h : (decSh bs 0).2.1 = 0) : (encSh (decSh bs 0).1).2 = 0 ∧ (encSh (decSh bs 0).1).1 = bs.take (decSh bs 0).2.2 := by
  unfold decSh at h ⊢
  by_cases h1 : (typesR bs 0 16).1 = true ∧ shapeOk (typesR bs 0 16).2.1 = true
  · rw [if_pos h1]
    have he : encSh (typesR bs 0 16).2.1 = (packL (typesR bs 0 16).2.1, 0) := by unfold encSh; rw [if_pos h1.2]
    show (encSh (typesR bs 0 16).2.1).2 = 0 ∧ (encSh (typesR bs 0 16).2.1).1 = bs.take (typesR bs 0 16).2.2
    rw [he]
    refine ⟨rfl, ?_⟩
    have := typesR_bytes hb (by omega) h1.1
    rw [Nat.zero_add, List.drop_zero] at this
    exact this
  · rw [if_neg h1] at h; simp at h
theorem shape_said {l : List UInt8} : ((readSh l).2 = 0 ∧ showSh (readSh l).1 = l) ∨ ((readSh l).2 = 60 ∧ (readSh l).1 = []) := by
  unfold readSh
  by_cases h : (typesT l).2 = 0 ∧ shapeOk (typesT l).1 = true
  · rw [if_pos h]
    left
    refine ⟨rfl, ?_⟩
    show showSh (typesT l).1 = l
    unfold showSh
    rw [if_pos h.2]
    exact (textL_types h.1).1
  · rw [if_neg h]
    exact .inr ⟨rfl, rfl⟩

/-- Likewise with signatures. -/
theorem sig_back {xs ys : List Int} (h : sigOk xs ys = true) (T : List Int) : decG ((encG xs ys).1 ++ T) 0 = (xs, ys, 0, (encG xs ys).1.length) ∧ (encG xs ys).2 = 0 := by
  have hl := sigOk_len h
  have hx := sigOk_args h
  have hy : ∀ x ∈ ys, 1 ≤ x ∧ x ≤ 4 := fun x hx => by have := sigOk_res h x hx; omega
  have he : encG xs ys = (packL xs ++ packL ys, 0) := by unfold encG; rw [if_pos h]
  rw [he]
  refine ⟨?_, rfl⟩
  show decG ((packL xs ++ packL ys) ++ T) 0 = (xs, ys, 0, (packL xs ++ packL ys).length)
  have t1 := typesR_at (bs := (packL xs ++ packL ys) ++ T) (p := 0) (most := 64) (T := packL ys ++ T) (by rw [List.drop_zero, List.append_assoc]) hx (by omega) (by omega)
  have t2 := typesR_at (bs := (packL xs ++ packL ys) ++ T) (p := 0 + (packL xs).length) (most := 64) (T := T) (by rw [Nat.zero_add, List.append_assoc, List.drop_left]) hy (by omega) (by omega)
  have t2' : typesR ((packL xs ++ packL ys) ++ T) (0 + (typesR ((packL xs ++ packL ys) ++ T) 0 64).2.2) 64 = (true, ys, (packL ys).length) := by rw [t1]; exact t2
  rw [decG_yes (by rw [t1]) (by rw [t2']) (by rw [t2', t1]; exact h), t2', t1, List.length_append]
theorem encG_err {xs ys : List Int} : (encG xs ys).2 = 0 ↔ sigOk xs ys = true := by
  unfold encG
  split
  · simp [*]
  · rename_i h; simp [h]
theorem sig_read {bs : List Int} (hb : ∀ b ∈ bs, 0 ≤ b ∧ b ≤ 255) (h : (decG bs 0).2.2.1 = 0) : (encG (decG bs 0).1 (decG bs 0).2.1).2 = 0 ∧ (encG (decG bs 0).1 (decG bs 0).2.1).1 = bs.take (decG bs 0).2.2.2 := by
  cases h1 : (typesR bs 0 64).1
  · rw [decG_no1 h1] at h; simp at h
  cases h2 : (typesR bs (0 + (typesR bs 0 64).2.2) 64).1
  · rw [decG_no2 h2] at h; simp at h
  cases h3 : sigOk (typesR bs 0 64).2.1 (typesR bs (0 + (typesR bs 0 64).2.2) 64).2.1
  · rw [decG_no3 h3] at h; simp at h
  rw [decG_yes h1 h2 h3]
  have he : encG (typesR bs 0 64).2.1 (typesR bs (0 + (typesR bs 0 64).2.2) 64).2.1 = (packL (typesR bs 0 64).2.1 ++ packL (typesR bs (0 + (typesR bs 0 64).2.2) 64).2.1, 0) := by unfold encG; rw [if_pos h3]
  refine ⟨by show (encG _ _).2 = 0; rw [he], ?_⟩
  show (encG (typesR bs 0 64).2.1 (typesR bs (0 + (typesR bs 0 64).2.2) 64).2.1).1 = bs.take ((typesR bs 0 64).2.2 + (typesR bs (0 + (typesR bs 0 64).2.2) 64).2.2)
  rw [he]
  have b1 := typesR_bytes hb (by omega) h1
  have b2 := typesR_bytes hb (by omega) h2
  rw [Nat.zero_add] at *
  generalize (typesR bs 0 64).2.2 = k at *
  show packL (typesR bs 0 64).2.1 ++ packL (typesR bs k 64).2.1 = _
  rw [b1, b2, List.drop_zero]
  generalize (typesR bs k 64).2.2 = m at *
  have e1 : bs.take k = (bs.take (k + m)).take k := by rw [List.take_take]; congr 1; omega
  rw [e1, List.take_append_drop]
theorem hasA_text {xs : List Int} (hk : ∀ x ∈ xs, 1 ≤ x ∧ x ≤ 4) (hl : xs.length ≤ 1024) : hasA (textL xs) = false := by
  rw [textL_known hk hl]
  have : ∀ l : List Int, (∀ x ∈ l, 1 ≤ x ∧ x ≤ 4) → hasA (l.map ltr) = false := by
    intro l
    induction l with
    | nil => intro _; rfl
    | cons x t ih =>
      intro h
      have hx := h x (List.mem_cons_self)
      simp only [List.map_cons, hasA, Bool.or_eq_false_iff, beq_eq_false_iff_ne]
      exact ⟨(ltT_ltr x hx.1 hx.2).2.2, ih (fun y hy => h y (List.mem_cons_of_mem _ hy))⟩
  exact this xs hk
theorem sig_text {xs ys : List Int} (h : sigOk xs ys = true) : readG (showG xs ys) = (xs, ys, 0) := by
  have hl := sigOk_len h
  have hx := sigOk_args h
  have hy : ∀ x ∈ ys, 1 ≤ x ∧ x ≤ 4 := fun x hx => by have := sigOk_res h x hx; omega
  have hs : showG xs ys = textL xs ++ 62 :: textL ys := by unfold showG; rw [if_pos h, List.append_assoc]; rfl
  rw [hs]
  obtain ⟨g1, g2, g3⟩ := cut_at (textL xs) (textL ys) (hasA_text hx (by omega))
  unfold readG
  rw [g1, g2, g3, typesT_text hx (by omega), typesT_text hy (by omega), if_pos ⟨rfl, rfl, rfl, h⟩]
theorem sig_said {l : List UInt8} : ((readG l).2.2 = 0 ∧ showG (readG l).1 (readG l).2.1 = l) ∨ ((readG l).2.2 = 61 ∧ (readG l).1 = []) := by
  unfold readG
  by_cases h : hasA l = true ∧ (typesT (cutA l)).2 = 0 ∧ (typesT (cutB l)).2 = 0 ∧ sigOk (typesT (cutA l)).1 (typesT (cutB l)).1 = true
  · rw [if_pos h]
    left
    refine ⟨rfl, ?_⟩
    show showG (typesT (cutA l)).1 (typesT (cutB l)).1 = l
    unfold showG
    rw [if_pos h.2.2.2, (textL_types h.2.1).1, (textL_types h.2.2.1).1, List.append_assoc]
    exact (cut_all l h.1).symm
  · rw [if_neg h]
    exact .inr ⟨rfl, rfl⟩
end Go.Proofs.Ytacmajlbaenjfaa
