/- Contracts: Zig, Zag, and the Tape's Signed and Bytes. -/
import Derived.Test.YtamagdnlicnefaaDoorVc
import Derived.Lib.Zigzag
namespace Go.Proofs.YtamagdnlicnefaaDoor
open Go.RowKit Go.Shelf Go.Proofs.YtamagdnlicnefaaDoorW.PrintWords Go.Proofs.YtamagdnlicnefaaDoorW.PrintLast Go.Proofs.YtamagdnlicnefaaDoorW.PrintMore

def zag (n : Nat) : Int := if n % 2 = 0 then (n / 2 : Nat) else -((n / 2 : Nat) : Int) - 1

theorem xor_u64_comm (a b : Int) : Go.bits .xor .u64 a b = Go.bits .xor .u64 b a := by
  show IntKind.u64.wrap ((BitVec.ofInt 64 a ^^^ BitVec.ofInt 64 b).toNat : Int) = IntKind.u64.wrap ((BitVec.ofInt 64 b ^^^ BitVec.ofInt 64 a).toNat : Int)
  rw [BitVec.xor_comm]
theorem xor_i64_comm (a b : Int) : Go.bits .xor .i64 a b = Go.bits .xor .i64 b a := by
  show IntKind.i64.wrap ((BitVec.ofInt 64 a ^^^ BitVec.ofInt 64 b).toNat : Int) = IntKind.i64.wrap ((BitVec.ofInt 64 b ^^^ BitVec.ofInt 64 a).toNat : Int)
  rw [BitVec.xor_comm]

theorem zig_num (a : Int) (h0 : -9223372036854775808 ≤ a) (h1 : a ≤ 9223372036854775807) :
    Go.bits .xor .u64 (IntKind.u64.wrap ((IntKind.u64.wrap a) * 2)) (IntKind.u64.wrap (a / 9223372036854775808)) = (Lib.zigzag a : Int) := by
  by_cases h : 0 ≤ a
  · have e1 : IntKind.u64.wrap (a / 9223372036854775808) = ((0 : Nat) : Int) := by rw [IntKind.wrap_u64]; omega
    have e2 : IntKind.u64.wrap (IntKind.u64.wrap a * 2) = ((2 * a).toNat : Int) := by rw [IntKind.wrap_u64, IntKind.wrap_u64]; omega
    rw [e1, e2, bits_xor_u64_nat _ _ (by omega) (by omega), Nat.xor_zero, Lib.zigzag_nonneg h]
    omega
  · have e1 : IntKind.u64.wrap (a / 9223372036854775808) = IntKind.u64.max := by
      have : IntKind.u64.max = 18446744073709551615 := by decide
      rw [IntKind.wrap_u64, this]; omega
    rw [e1, xor_u64_comm]
    exact Lib.zigzag_neg h0 (by omega)

theorem zag_num (n : Nat) (hn : n < 18446744073709551616) :
    Go.bits .xor .i64 ((n : Int) / 2) (wrap64 (-(wrap64 (Go.bits .and .u64 (n : Int) 1)))) = zag n := by
  rw [Lib.u64_and1 _ (by omega) (by omega)]
  unfold zag
  have e1 : (n : Int) / 2 = ((n / 2 : Nat) : Int) := by omega
  rw [e1]
  by_cases h : n % 2 = 0
  · have e2 : wrap64 (-(wrap64 ((n : Int) % 2))) = 0 := by unfold wrap64; omega
    rw [e2, if_pos h]
    have : n / 2 < 9223372036854775808 := by omega
    generalize n / 2 = m at *
    show IntKind.i64.wrap ((BitVec.ofInt 64 (m : Int) ^^^ BitVec.ofInt 64 0).toNat : Int) = _
    have h2 : (BitVec.ofInt 64 (m : Int)).toNat = m := by
      rw [BitVec.ofInt_natCast, BitVec.toNat_ofNat]; exact Nat.mod_eq_of_lt (by omega)
    have h3 : (BitVec.ofInt 64 0).toNat = 0 := by decide
    rw [BitVec.toNat_xor, h2, h3, Nat.xor_zero, IntKind.wrap_i64]
    omega
  · have e2 : wrap64 (-(wrap64 ((n : Int) % 2))) = -1 := by unfold wrap64; omega
    rw [e2, if_neg h, xor_i64_comm, Lib.i64_not _ (by omega)]

theorem Zig_any (a : Int) (h0 : -9223372036854775808 ≤ a) (h1 : a ≤ 9223372036854775807) (w : World) :
    Calls Tryd.prog 49 #[.int .i64 a] w fun e w' => e = .returned (.int .u64 (Lib.zigzag a)) ∧ w = w' := by
  have h := zig_num a h0 h1
  have H := Lib.hid h
  clear h
  go_enter Tryd.func49, Tryd.ntmps49
  go_wp2
  go_ret
  refine ⟨ret_int ?_, rfl⟩
  rw [← H.out]

theorem Zag_any (n : Nat) (hn : n < 18446744073709551616) (w : World) :
    Calls Tryd.prog 73 #[.int .u64 n] w fun e w' => e = .returned (.int .i64 (zag n)) ∧ w = w' := by
  have h := zag_num n hn
  have H := Lib.hid h
  clear h
  go_enter Tryd.func73, Tryd.ntmps73
  go_wp2
  go_ret
  refine ⟨ret_int ?_, rfl⟩
  rw [← H.out]

theorem zigzag_lt (a : Int) (h0 : -9223372036854775808 ≤ a) (h1 : a ≤ 9223372036854775807) : Lib.zigzag a < 18446744073709551616 := by
  unfold Lib.zigzag; split <;> omega

set_option maxHeartbeats 1000000 in
theorem TSigned_any (w : World) (g base : Nat) (a : Int) (h0 : -9223372036854775808 ≤ a) (h1 : a ≤ 9223372036854775807) (v0 : Value) (xs : List Int) (hT : TapeIs w g base v0 xs) (hbase : base ≤ w.heap.size) (hlen : xs.length + 9 ≤ 140737488355328) :
    Calls Tryd.prog 29 #[.pointer (some ⟨g, 0, none⟩), .int .i64 a] w fun e w' => e = .returned (.pointer (some ⟨g, 0, none⟩)) ∧
      (∃ v, TapeIs w' g base v (xs ++ encI (Lib.zigzag a)) ∧ (v.ownBlock = v0.ownBlock ∨ ∃ b, v.ownBlock = some b ∧ w.heap.size ≤ b)) ∧ Fr (fun i => i = g ∨ v0.ownBlock = some i) w w' := by
  go_enter Tryd.func29, Tryd.ntmps29
  go_wp2_with fail
  refine (Zig_any a h0 h1 _).mono ?_
  rintro e w1 ⟨rfl, rfl⟩
  go_wp2_with fail
  refine (TNumber_any w g base _ v0 xs (zigzag_lt a h0 h1) hT hbase hlen).mono ?_
  rintro e w2 ⟨rfl, hh⟩
  go_wp2
  go_ret
  exact ⟨rfl, hh⟩

theorem C_same {k : IntKind} {w w1 : World} {A : Option Addr} {n : Nat} {xs : List Int} (h : (Kd.int k).C w A n xs) (hA : ∀ a, A = some a → w1.heap[a.block]? = w.heap[a.block]?) : (Kd.int k).C w1 A n xs := by
  refine ⟨h.1, h.2.1, fun hn => ?_⟩
  obtain ⟨ad, e, hc⟩ := h.2.2 hn
  refine ⟨ad, e, fun j p hj => ?_⟩
  obtain ⟨c, hs, hr, hcell⟩ := hc j p hj
  refine ⟨c, hs, hr, fun i u hu => ?_⟩
  rw [World.cell?_of_block (w := w) (w' := w1)]
  · exact hcell i u hu
  · have : (ad.add (j * (Kd.int k).sz + i)).block = ad.block := by unfold Addr.add; split <;> rfl
    rw [this]; exact hA ad e

end Go.Proofs.YtamagdnlicnefaaDoor
