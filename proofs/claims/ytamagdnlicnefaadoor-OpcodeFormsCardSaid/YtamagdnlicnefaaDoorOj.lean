/- Opcode: the document's side, plain. -/
import Derived.Test.YtamagdnlicnefaaDoorOi
import Derived.Test.YtamagdnlicnefaaDoorVq
import Derived.Test.YtamagdnlicnefaaDoorPRefb
namespace Go.Proofs.YtamagdnlicnefaaDoor
open Go.RowKit Go.Shelf Go.Proofs.YtamagdnlicnefaaDoorW.PrintWords Go.Proofs.YtamagdnlicnefaaDoorW.PrintLast Go.Proofs.YtamagdnlicnefaaDoorW.PrintMore
open Go.Proofs.YtamagdnlicnefaaDoor.PRef

theorem kinds_f (op : Int) : backstayref04_Kinds.f 20 op = some ((ka op : Int), (kb op : Int)) := by
  by_cases h : 0 ≤ op ∧ op < 30
  · obtain ⟨n, rfl⟩ := Int.eq_ofNat_of_zero_le h.1
    have : ∀ k : Fin 30, backstayref04_Kinds.f 20 (k.val : Int) = some ((ka (k.val : Int) : Int), (kb (k.val : Int) : Int)) := by decide +kernel
    exact this ⟨n, by omega⟩
  · have ha : ka op = 0 := if_neg h
    have hb : kb op = 0 := if_neg h
    rw [ha, hb]
    have e : ∀ i : Int, 0 ≤ i → i < 30 → ¬ op = i := fun i h0 h1 e => h ⟨by omega, by omega⟩
    have e2 : ∀ i : Int, 0 ≤ i → i < 30 → (op == i) = false := fun i h0 h1 => beq_eq_false_iff_ne.2 (e i h0 h1)
    simp [backstayref04_Kinds.f, backstayref04_Kinds.j0, backstayref04_Kinds.j1, backstayref04_Kinds.j2, backstayref04_Kinds.j3, e]
theorem in_f (k : Nat) (n : Int) (hk : k ≤ 10) (h0 : -9223372036854775808 ≤ n) (h1 : n ≤ 9223372036854775807) : backstayref04_in.f k n = some (inB k n) := by
  have hm : ∀ k : Fin 11, k.val ≠ 1 → backstayref04_least.f k.val = some (lo k.val) ∧ backstayref04_most.f k.val = some (hi k.val) := by decide +kernel
  unfold backstayref04_in.f
  by_cases h : k = 1
  · subst h
    rw [if_pos (by rfl)]
    have : inB 1 n = true := by
      unfold inB
      rw [Bool.and_eq_true, decide_eq_true_eq, decide_eq_true_eq]
      exact ⟨h0, h1⟩
    rw [this]
  · rw [if_neg (by omega)]
    obtain ⟨e1, e2⟩ := hm ⟨k, by omega⟩ h
    simp only at e1 e2
    rw [e1, Option.bind_some]
    by_cases h2 : lo k ≤ n
    · rw [if_pos h2, e2, Option.bind_some]
      unfold inB
      rw [decide_eq_true h2, Bool.true_and]
    · rw [if_neg h2]
      unfold inB
      rw [decide_eq_false h2, Bool.false_and]
theorem check_f (op a b : Int) (h0 : -9223372036854775808 ≤ a) (h1 : a ≤ 9223372036854775807) (h2 : -9223372036854775808 ≤ b) (h3 : b ≤ 9223372036854775807) : backstayref04_Check.f 20 op a b = some (codeE (okB op a b)) := by
  unfold backstayref04_Check.f
  rw [kinds_f, Option.bind_some]
  simp only
  rw [in_f _ _ (ka_le op) h0 h1, Option.bind_some, in_f _ _ (kb_le op) h2 h3, Option.bind_some]
  by_cases h : op < 0
  · rw [if_pos h]
    have : okB op a b = false := by unfold okB knownB; rw [decide_eq_false (by omega : ¬ 0 ≤ op)]; rfl
    rw [this]; rfl
  · rw [if_neg h]
    by_cases h5 : op ≥ 30
    · rw [if_pos h5]
      have : okB op a b = false := by unfold okB knownB; rw [decide_eq_false (by omega : ¬ op < 30), Bool.and_false]; rfl
      rw [this]; rfl
    · rw [if_neg h5]
      have : okB op a b = (inB (ka op) a && inB (kb op) b) := by unfold okB knownB; rw [decide_eq_true (by omega : 0 ≤ op), decide_eq_true (by omega : op < 30)]; rfl
      rw [this]
      cases inB (ka op) a <;> cases inB (kb op) b <;> rfl
theorem number_f20 (n : Nat) (hn : n < 18446744073709551616) : backstayref01_Number.f 20 n = some (encI n) := leO_up (fun k => backstayref01_Number.mono _ k) (by omega) (number_f n hn)
theorem zig_f (a : Int) (h0 : -9223372036854775808 ≤ a) (h1 : a ≤ 9223372036854775807) : backstayref01_Zig.f a = some (Lib.zigzag a : Int) := by
  unfold backstayref01_Zig.f
  by_cases h : a ≥ 0
  · rw [if_pos h]
    have hz : ((Lib.zigzag a : Nat) : Int) = 2 * a := by unfold Lib.zigzag; rw [if_pos h]; omega
    rw [hz]
    simp only [IntKind.wrap_u64]
    congr 1
    omega
  · rw [if_neg h]
    have hz : ((Lib.zigzag a : Nat) : Int) = -2 * a - 1 := by unfold Lib.zigzag; rw [if_neg h]; omega
    rw [hz]
    simp only [IntKind.wrap_u64, wrap64]
    congr 1
    omega
theorem wrapu (n : Int) (h0 : 0 ≤ n) (h1 : n ≤ 9223372036854775807) : ∃ m : Nat, IntKind.u64.wrap n = m ∧ n.toNat = m ∧ m < 18446744073709551616 := ⟨n.toNat, by rw [IntKind.wrap_u64]; omega, rfl, by omega⟩
theorem bytes_f (op a b : Int) (h : okB op a b = true) : backstayref04_Bytes.f 20 op a b = some (encX op a b) := by
  have hk := h
  unfold okB knownB inB at h
  simp only [Bool.and_eq_true, decide_eq_true_eq] at h
  obtain ⟨⟨o0, o1⟩, ⟨a0, a1⟩, b0, b1⟩ := h
  have ha := hi_le (ka op) (ka_le op)
  have hb := hi_le (kb op) (kb_le op)
  obtain ⟨m, m1, m2, m3⟩ := wrapu op o0 (by omega)
  have hl : ∀ n, (encI n).length ≤ 9 := encI_le
  have hl1 := hl m
  unfold backstayref04_Bytes.f encX
  rw [m1, number_f20 m m3, Option.bind_some, kinds_f, Option.bind_some, m2]
  simp only
  by_cases h1 : ka op = 1
  · have hkb : kb op = 0 := by
      have key : ∀ k : Fin 30, ka (k.val : Int) = 1 → kb (k.val : Int) = 0 := by decide +kernel
      obtain ⟨n, rfl⟩ := Int.eq_ofNat_of_zero_le o0
      exact key ⟨n, by omega⟩ h1
    rw [h1] at a0 a1
    have e1 : lo 1 = -9223372036854775808 := rfl
    have e2 : hi 1 = 9223372036854775807 := rfl
    rw [h1, hkb, if_pos (by rfl), zig_f a (by omega) (by omega), Option.bind_some, number_f20 _ (zigzag_lt a (by omega) (by omega)), Option.bind_some]
    have := hl (Lib.zigzag a)
    rw [if_pos (by omega)]
    simp [flatB, opsL, opB, valAt]
  · rw [if_neg (by omega)]
    by_cases h2 : ka op = 0
    · rw [if_neg (by omega)]
      have hkb : kb op = 0 := by
        have key : ∀ k : Fin 30, ka (k.val : Int) = 0 → kb (k.val : Int) = 0 := by decide +kernel
        obtain ⟨n, rfl⟩ := Int.eq_ofNat_of_zero_le o0
        exact key ⟨n, by omega⟩ h2
      rw [hkb, h2]
      simp [flatB, opsL]
    · rw [if_pos (by omega)]
      obtain ⟨p, p1, p2, p3⟩ := wrapu a (by have := lo_nat (ka op) h1; omega) (by omega)
      have hl2 := hl p
      rw [p1, number_f20 p p3, Option.bind_some, if_pos (by omega)]
      simp only [Option.bind_some]
      by_cases h3 : kb op = 0
      · rw [if_neg (by omega), h3]
        simp [flatB, opsL, h2, opB, h1, valAt, p2]
      · have h4 : kb op ≠ 1 := by
          have key : ∀ k : Fin 30, kb (k.val : Int) ≠ 1 := by decide +kernel
          obtain ⟨n, rfl⟩ := Int.eq_ofNat_of_zero_le o0
          exact key ⟨n, by omega⟩
        obtain ⟨q, q1, q2, q3⟩ := wrapu b (by have := lo_nat (kb op) h4; omega) (by omega)
        have hl3 := hl q
        rw [if_pos (by omega), q1, number_f20 q q3, Option.bind_some, if_pos (by rw [List.length_append]; omega)]
        simp [flatB, opsL, h2, h3, opB, h1, h4, valAt, p2, q2]
theorem encode_f (op a b : Int) (h0 : -9223372036854775808 ≤ a) (h1 : a ≤ 9223372036854775807) (h2 : -9223372036854775808 ≤ b) (h3 : b ≤ 9223372036854775807) :
    backstayref04_Encode.f 20 op a b = some (if okB op a b = true then (encX op a b, 0) else ([], 40)) := by
  unfold backstayref04_Encode.f
  rw [check_f op a b h0 h1 h2 h3, Option.bind_some]
  by_cases h : okB op a b = true
  · rw [h, bytes_f op a b h, if_pos rfl]; rfl
  · have h' : okB op a b = false := by simpa using h
    rw [h', if_neg (by decide), if_neg (by decide)]
end Go.Proofs.YtamagdnlicnefaaDoor
