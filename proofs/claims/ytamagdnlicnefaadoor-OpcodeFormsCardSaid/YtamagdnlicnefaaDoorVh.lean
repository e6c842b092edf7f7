/- The document's Number, Bytes, Twin, Zig, Zag: contracts. -/
import Derived.Test.YtamagdnlicnefaaDoorVg
import Derived.Test.YtamagdnlicnefaaDoorPRefa
namespace Go.Proofs.YtamagdnlicnefaaDoor
open Go.RowKit Go.Shelf Go.Proofs.YtamagdnlicnefaaDoorW.PrintWords Go.Proofs.YtamagdnlicnefaaDoorW.PrintLast Go.Proofs.YtamagdnlicnefaaDoorW.PrintMore
open Go.Proofs.YtamagdnlicnefaaDoor.PRef

theorem be_snoc : ∀ (j n : Nat), VP.be (j + 1) n = VP.be j (n / 256) ++ [n % 256]
  | 0, n => by simp [VP.be]
  | j + 1, n => by
    have e : VP.be (j + 1 + 1) n = (n / 256 ^ (j + 1) % 256) :: VP.be (j + 1) n := rfl
    rw [e, be_snoc j n]
    have e2 : VP.be (j + 1) (n / 256) = (n / 256 / 256 ^ j % 256) :: VP.be j (n / 256) := rfl
    rw [e2, Nat.div_div_eq_div_mul, Nat.pow_succ, Nat.mul_comm (256 ^ j) 256]
    rfl

theorem width_l0 (n : Nat) (hn : n < 18446744073709551616) : ∀ (m k : Nat), 1 ≤ k → k ≤ 8 → m + k = 8 → (k = 1 ∨ 128 ^ (k - 1) ≤ n) → backstayref01_Width.l0 (m + 1) n k (128 ^ k : Nat) = some (VP.wid n : Int)
  | 0, k, h1, h8, hm, hlo => by
    obtain rfl : k = 8 := by omega
    simp only [backstayref01_Width.l0]
    rw [if_neg (by omega)]
    by_cases h : 72057594037927936 ≤ n
    · rw [if_pos (by simp; omega), wid_9 n h]; rfl
    · rw [if_neg (by simp; omega), wid_of n 8 h1 h8 hlo (by simp; omega)]
  | m + 1, k, h1, h8, hm, hlo => by
    rw [backstayref01_Width.l0, if_pos (by omega)]
    by_cases h : 128 ^ k ≤ n
    · rw [if_pos (by exact_mod_cast h)]
      have e1 : wrap64 ((k : Int) + 1) = ((k + 1 : Nat) : Int) := by
        unfold wrap64; omega
      have hp := pow128 (k + 1) (by omega)
      have e2 : IntKind.u64.wrap (((128 ^ k : Nat) : Int) * 128) = ((128 ^ (k + 1) : Nat) : Int) := by
        rw [IntKind.wrap_u64, Nat.pow_succ]
        rw [Nat.pow_succ] at hp
        omega
      rw [e1, e2]
      exact width_l0 n hn m (k + 1) (by omega) (by omega) (by omega) (.inr h)
    · rw [if_neg (by simp only [ge_iff_le, Int.ofNat_le]; exact h), wid_of n k h1 h8 hlo (by omega)]

theorem width_f (n : Nat) (hn : n < 18446744073709551616) : backstayref01_Width.f 8 n = some (VP.wid n : Int) := width_l0 n hn 7 1 (by omega) (by omega) (by omega) (.inl rfl)

theorem l1_at (w : Nat) (h1 : 1 ≤ w) (h9 : w ≤ 9) (L : List Int) : backstayref01_Number.l1 9 w L 0 128 1 = if 0 < (L.length : Int) then some (L.set 0 (wrap64 (((VP.mark w : Nat) : Int) + wrap64 (rd L 0)) % 256)) else none := by
  have : w = 1 ∨ w = 2 ∨ w = 3 ∨ w = 4 ∨ w = 5 ∨ w = 6 ∨ w = 7 ∨ w = 8 ∨ w = 9 := by omega
  rcases this with rfl | rfl | rfl | rfl | rfl | rfl | rfl | rfl | rfl <;> simp [backstayref01_Number.l1, VP.mark, wrap64]

theorem l0_at (w : Nat) (K : Nat) : ∀ (j x : Nat) (L : List Int), x < 18446744073709551616 → j ≤ L.length → L.length ≤ 9 →
    backstayref01_Number.l0 (K + 1 + j) x w L ((j : Int) - 1) = backstayref01_Number.l1 K w ((VP.be j x).map Int.ofNat ++ L.drop j) 0 128 1
  | 0, x, L, _, _, _ => by
    rw [Nat.add_zero, backstayref01_Number.l0, if_neg (by omega)]
    simp [VP.be]
  | j + 1, x, L, hx, hj, h9 => by
    have ej : (((j + 1 : Nat) : Int) - 1) = (j : Int) := by omega
    rw [ej, ← Nat.add_assoc, backstayref01_Number.l0, if_pos (by omega), if_pos (by omega), if_pos (by omega)]
    have e1 : IntKind.u64.wrap (Int.tdiv (x : Int) 256) = ((x / 256 : Nat) : Int) := by
      rw [Int.tdiv_eq_ediv_of_nonneg (by omega), IntKind.wrap_u64]; omega
    have e2 : wrap64 ((j : Int) - 1) = (j : Int) - 1 := by
      unfold wrap64; omega
    have e3 : (Int.tmod (x : Int) 256) % 256 = ((x % 256 : Nat) : Int) := by
      rw [Int.tmod_eq_emod_of_nonneg (by omega)]; omega
    rw [e1, e2, e3, l0_at w K j (x / 256) _ (by omega) (by rw [List.length_set]; omega) (by rw [List.length_set]; omega), Int.toNat_natCast, be_snoc, List.map_append, List.append_assoc]
    congr 2
    have hjl : j < L.length := by omega
    rw [List.drop_eq_getElem_cons (by rw [List.length_set]; exact hjl), List.getElem_set_self, List.drop_set_of_lt (by omega)]
    rfl

theorem leO_up {α : Type} {f : Nat → Option α} (hs : ∀ k, LeO (f k) (f (k + 1))) {a b : Nat} (hab : a ≤ b) {r : α} (h : f a = some r) : f b = some r := by
  induction hab with
  | refl => exact h
  | step _ ih => exact hs _ r ih

theorem number_f (n : Nat) (hn : n < 18446744073709551616) : backstayref01_Number.f 19 n = some (encI n) := by
  have hw := VP.wid_pos n
  have hf : backstayref01_Width.f 19 n = some (VP.wid n : Int) := leO_up (f := fun k => backstayref01_Width.f k n) (fun k => backstayref01_Width.mono _ k) (by omega) (width_f n hn)
  obtain ⟨d, hd⟩ : ∃ d, VP.wid n = d + 1 := ⟨VP.wid n - 1, by omega⟩
  have h0 : backstayref01_Number.l0 19 n (VP.wid n : Int) (List.replicate (VP.wid n) 0) ((VP.wid n : Int) - 1) = backstayref01_Number.l1 (18 - VP.wid n) (VP.wid n : Int) ((VP.be (VP.wid n) n).map Int.ofNat) 0 128 1 := by
    have h := l0_at (VP.wid n) (18 - VP.wid n) (VP.wid n) n (List.replicate (VP.wid n) 0) hn (by simp) (by simp; omega)
    rw [show 18 - VP.wid n + 1 + VP.wid n = 19 by omega] at h
    rw [h, List.drop_of_length_le (by simp), List.append_nil]
  have h1 : backstayref01_Number.l1 (18 - VP.wid n) (VP.wid n : Int) ((VP.be (VP.wid n) n).map Int.ofNat) 0 128 1 = some (encI n) := by
    have h := l1_at (VP.wid n) hw.1 hw.2 ((VP.be (VP.wid n) n).map Int.ofNat)
    rw [if_pos (by simp [VP.be_length]; omega)] at h
    have h' := leO_up (f := fun k => backstayref01_Number.l1 k (VP.wid n : Int) ((VP.be (VP.wid n) n).map Int.ofNat) 0 128 1) (fun k => (backstayref01_Number.mono_l k).2 _ _ _ _ _) (show 9 ≤ 18 - VP.wid n by omega) h
    rw [h']
    congr 1
    obtain ⟨_, f2, _, _, f5⟩ := VP.first_cases n hn
    rw [encI, VP.enc, VP.first] at *
    simp only [hd, Nat.add_sub_cancel] at *
    have e1 : VP.be (d + 1) n = (n / 256 ^ d % 256) :: VP.be d n := rfl
    rw [e1, Nat.mod_eq_of_lt f5]
    simp only [List.map_cons, List.set_cons_zero, rd, Int.toNat_zero, List.getD_cons_zero]
    generalize n / 256 ^ d = q at *
    congr 1
    unfold wrap64
    simp only [Int.ofNat_eq_natCast]
    omega
  show ((backstayref01_Width.f 19 n).bind _) = _
  rw [hf]
  show (if (0 : Int) ≤ (VP.wid n : Int) then (if ((VP.wid n : Int)).toNat ≤ 281474976710656 then _ else none) else none) = _
  rw [if_pos (by omega), if_pos (by omega), show wrap64 ((VP.wid n : Int) - 1) = (VP.wid n : Int) - 1 by unfold wrap64; omega, Int.toNat_natCast, h0, h1]

theorem RefNumber_any (n : Nat) (hn : n < 18446744073709551616) (w : World) :
    Calls Tryd.prog 50 #[.int .u64 n] w fun e w' => ∃ v, e = .returned v ∧ w'.ownsRow w.heap.size 5 1 v (encI n).length (nums .u8 (encI n)) ∧ Below w.heap.size w w' := by
  refine (backstayref01_Number.calls 19 n (encI n) w (number_f n hn)).mono ?_
  rintro e w' ⟨v, rfl, hR, hB⟩
  exact ⟨v, rfl, Kd.own_of_R hR, hB⟩

theorem Twin_any (A : Option Addr) (c : Nat) (bs : List Int) (w : World) (hC : (Kd.int .u8).C w A bs.length bs) (hc : bs.length ≤ c) (hl : bs.length < 140737488355328) :
    Calls Tryd.prog 11 #[.slice A bs.length c] w fun e w' => ∃ v, e = .returned v ∧ w'.ownsRow w.heap.size 5 1 v bs.length (nums .u8 bs) ∧ Below w.heap.size w w' := by
  refine (PRef.backstayref01_Twin.calls A c bs bs w hC hc (by simp [PRef.backstayref01_Twin.f]; omega)).mono ?_
  rintro e w' ⟨v, rfl, hR, hB⟩
  exact ⟨v, rfl, Kd.own_of_R hR, hB⟩

theorem RefZig_any (a : Int) (h0 : -9223372036854775808 ≤ a) (h1 : a ≤ 9223372036854775807) (w : World) :
    Calls Tryd.prog 51 #[.int .i64 a] w fun e w' => e = .returned (.int .u64 (Lib.zigzag a)) ∧ w = w' := by
  by_cases h : 0 ≤ a
  · have hz : ((Lib.zigzag a : Nat) : Int) = 2 * a := by unfold Lib.zigzag; rw [if_pos h]; omega
    rw [hz]
    go_enter Tryd.func51, Tryd.ntmps51
    go_wp2
    go_ret
    refine ⟨ret_int ?_, rfl⟩
    rfl
  · have hz : ((Lib.zigzag a : Nat) : Int) = -2 * a - 1 := by unfold Lib.zigzag; rw [if_neg h]; omega
    rw [hz]
    go_enter Tryd.func51, Tryd.ntmps51
    go_wp2
    go_ret
    refine ⟨ret_int ?_, rfl⟩
    omega

theorem RefZag_any (n : Nat) (hn : n < 18446744073709551616) (w : World) :
    Calls Tryd.prog 74 #[.int .u64 n] w fun e w' => e = .returned (.int .i64 (zag n)) ∧ w = w' := by
  by_cases h : n % 2 = 0
  · have hz : zag n = (n / 2 : Nat) := by unfold zag; rw [if_pos h]
    rw [hz]
    have h' : ((n : Int) % 2 == 0) = true := by simp; omega
    go_enter Tryd.func74, Tryd.ntmps74
    go_wp2
    go_ret
    refine ⟨ret_int ?_, rfl⟩
    omega
  · have hz : zag n = -((n / 2 : Nat) : Int) - 1 := by unfold zag; rw [if_neg h]
    rw [hz]
    have h' : ((n : Int) % 2 == 0) = false := by simp; omega
    go_enter Tryd.func74, Tryd.ntmps74
    go_wp2
    go_ret
    refine ⟨ret_int ?_, rfl⟩
    omega
end Go.Proofs.YtamagdnlicnefaaDoor
