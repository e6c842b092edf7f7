/- Calls on none: a Tape and a Reel that are nil. -/
import Derived.Test.YtpiainanlmpieaaVs
import Derived.Test.YtpiainanlmpieaaVk
namespace Go.Proofs.Ytpiainanlmpieaa
open Go.RowKit Go.Shelf Go.Proofs.YtpiainanlmpieaaW.PrintWords Go.Proofs.YtpiainanlmpieaaW.PrintLast Go.Proofs.YtpiainanlmpieaaW.PrintMore

theorem find_nil (w : World) : Calls Try.prog 46 #[.pointer none] w fun e w' => e = .returned (.tuple #[.agg #[.int .u64 0, .int .i64 0, .nilFunc], .int .i64 1]) ∧ Below w.heap.size w w' := by
  go_enter Try.func46, Try.ntmps46
  go_wp2
  exact bodyPost_ret (v := .tuple #[.agg #[.int .u64 0, .int .i64 0, .nilFunc], .int .i64 1]) (by simp [results, Try.results46, go_sem]) rfl ⟨rfl, (Below.refl _ _).alloc (Nat.le_refl _) _⟩

theorem RNumber_nil (most : Int) (w : World) : Calls Try.prog 29 #[.pointer none, .int .u64 most] w fun e w' => e = .returned (.tuple #[.int .u64 0, .int .i64 1]) ∧ Below w.heap.size w w' := by
  go_enter Try.func29, Try.ntmps29
  go_wp2_with (go_at_call 46; refine (find_nil _).mono ?_; rintro e w1 ⟨rfl, hb⟩)
  go_ret2
  exact ⟨rfl, hb.trans ((below_alloc (Below.refl _ w1) _).mono hb.size)⟩

theorem RSigned_nil (least most : Int) (w : World) : Calls Try.prog 30 #[.pointer none, .int .i64 least, .int .i64 most] w fun e w' => e = .returned (.tuple #[.int .i64 0, .int .i64 1]) ∧ Below w.heap.size w w' := by
  have HZ := Lib.hid (fun w => Zag_any 0 (by omega) w)
  go_enter Try.func30, Try.ntmps30
  go_wp2_with (first | (go_at_call 46; refine (find_nil _).mono ?_; rintro e w1 ⟨rfl, hb⟩) | (go_at_call 19; refine (HZ.out _).mono ?_; rintro e w' ⟨rfl, rfl⟩))
  go_ret2
  exact ⟨rfl, hb.trans ((below_alloc (Below.refl _ w1) _).mono hb.size)⟩

theorem RBytes_nil (most : Int) (w : World) : Calls Try.prog 33 #[.pointer none, .int .i64 most] w fun e w' => e = .returned (.tuple #[.slice none 0 0, .int .i64 1]) ∧ Below w.heap.size w w' := by
  go_enter Try.func33, Try.ntmps33
  go_wp2_with (go_at_call 46; refine (find_nil _).mono ?_; rintro e w1 ⟨rfl, hb⟩)
  go_ret2
  exact ⟨rfl, hb.trans ((below_alloc (Below.refl _ w1) _).mono hb.size)⟩

theorem Raw_nil (n : Int) (w : World) : Calls Try.prog 35 #[.pointer none, .int .i64 n] w fun e w' => e = .returned (.tuple #[.slice none 0 0, .int .i64 1]) ∧ w = w' := by
  go_enter Try.func35, Try.ntmps35
  go_wp2
  go_ret2
  exact ⟨rfl, rfl⟩

theorem End_nil (w : World) : Calls Try.prog 37 #[.pointer none] w fun e w' => e = .returned (.int .i64 1) ∧ w = w' := by
  go_enter Try.func37, Try.ntmps37
  go_wp2
  go_ret
  exact ⟨rfl, rfl⟩

theorem At_nil (w : World) : Calls Try.prog 28 #[.pointer none] w fun e w' => e = .returned (.int .i64 0) ∧ w = w' := by
  go_enter Try.func28, Try.ntmps28
  go_wp2
  go_ret
  exact ⟨rfl, rfl⟩

theorem TNumber_nil (n : Int) (w : World) : Calls Try.prog 22 #[.pointer none, .int .u64 n] w fun e w' => e = .returned (.pointer none) ∧ Below w.heap.size w w' := by
  go_enter Try.func22, Try.ntmps22
  go_wp2
  go_ret
  exact ⟨rfl, (Below.refl _ _).alloc (Nat.le_refl _) _⟩

theorem TSigned_nil (n : Int) (h0 : -9223372036854775808 ≤ n) (h1 : n ≤ 9223372036854775807) (w : World) : Calls Try.prog 23 #[.pointer none, .int .i64 n] w fun e w' => e = .returned (.pointer none) ∧ Below w.heap.size w w' := by
  go_enter Try.func23, Try.ntmps23
  go_wp2_with (first | (go_at_call 17; refine (Zig_any n h0 h1 _).mono ?_; rintro e w' ⟨rfl, rfl⟩) | (go_at_call 22; refine (TNumber_nil _ _).mono ?_; rintro e w1 ⟨rfl, hb⟩))
  go_ret
  exact ⟨rfl, hb⟩

theorem TBytes_nil (w : World) : Calls Try.prog 25 #[.pointer none, .slice none 0 0] w fun e w' => e = .returned (.pointer none) ∧ Below w.heap.size w w' := by
  go_enter Try.func25, Try.ntmps25
  go_wp2_with (go_at_call 22; refine (TNumber_nil _ _).mono ?_; rintro e w1 ⟨rfl, hb⟩)
  go_ret
  exact ⟨rfl, hb⟩

theorem TAll_nil (w : World) : Calls Try.prog 26 #[.pointer none] w fun e w' => e = .returned (.slice none 0 0) ∧ w = w' := by
  go_enter Try.func26, Try.ntmps26
  go_wp2
  go_ret
  exact ⟨rfl, rfl⟩
end Go.Proofs.Ytpiainanlmpieaa
