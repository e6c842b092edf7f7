/- Opcode: the laws' of, bytes, alive. -/
import Derived.Test.YtamagdnlicnefaaGreatDoorKnQb
import Derived.Test.YtamagdnlicnefaaGreatDoorKnV1
namespace Go.Proofs.YtamagdnlicnefaaGreatDoor
open Go.RowKit Go.Shelf Go.Proofs.YtamagdnlicnefaaGreatDoorW.PrintWords Go.Proofs.YtamagdnlicnefaaGreatDoorW.PrintLast Go.Proofs.YtamagdnlicnefaaGreatDoorW.PrintMore

def bytesW (op a b : Int) : List Int := if okB op a b = true then encX op a b else []
def showW (op a b : Int) : List UInt8 := if okB op a b = true then showX op a b else []
theorem Show9_any (op a b : Int) (w : World) (hT : Tabs w) : Calls Tryz.prog 24 #[.agg #[.int .i64 op, .int .i64 a, .int .i64 b]] w fun e w' => e = .returned (.string ⟨(showW op a b).toArray⟩) ∧ Below w.heap.size w w' := by
  unfold showW
  by_cases h : okB op a b = true
  · rw [if_pos h]; exact Show9_ok op a b w h hT
  · rw [if_neg h]; exact Show9_bad op a b w (by simpa using h)
theorem of20_any (op a b : Int) (w : World) : Calls Tryz.prog 28 #[.int .i64 op, .int .i64 a, .int .i64 b] w fun e w' => e = .returned (.agg #[.int .i64 op, .int .i64 a, .int .i64 b]) ∧ Below w.heap.size w w' := by
  go_enter Tryz.func28, Tryz.ntmps28
  go_wp2
  refine bodyPost_ret (results_cell_row rfl _ _ w.heap.size 23 _ (0, 0) _ rfl (World.alloc_heap_new w _) Tryz.underlying23 rfl (by kernel_rfl)) rfl ⟨rfl, (Below.refl _ _).alloc (Nat.le_refl _) _⟩
theorem EncB (op a b : Int) (w : World) : Calls Tryz.prog 52 #[.agg #[.int .i64 op, .int .i64 a, .int .i64 b]] w fun e w' => ∃ A n c, e = .returned (.tuple #[.slice A n c, .int .i64 (codeE (okB op a b))]) ∧ n = (bytesW op a b).length ∧ n ≤ c ∧ (Kd.int .u8).C w' A n (bytesW op a b) ∧ Below w.heap.size w w' := by
  have key : ∀ (W : World) (base : Nat) (u : Value) (xs : List Int), W.ownsRow base 5 1 u xs.length (nums .u8 xs) → ∃ A n c, u = .slice A n c ∧ n = xs.length ∧ n ≤ c ∧ (Kd.int .u8).C W A n xs := by
    intro W base u xs h
    obtain ⟨A, n, c, rfl⟩ : ∃ A n c, u = .slice A n c := by
      rcases h.2 with ⟨rfl, _⟩ | ⟨g, cap, cur, rfl, _⟩
      · exact ⟨_, _, _, rfl⟩
      · exact ⟨_, _, _, rfl⟩
    have := row_C h
    exact ⟨A, n, c, rfl, this.1, this.2.1, by have h := this.2.2; rw [← this.1] at h; exact h⟩
  unfold bytesW
  by_cases h : okB op a b = true
  · rw [if_pos h]
    refine (Encode12_ok op a b w h).mono ?_
    rintro e w' ⟨u, rfl, hu, hb⟩
    obtain ⟨A, n, c, rfl, h1, h2, h3⟩ := key _ _ _ _ hu
    rw [h]
    exact ⟨A, n, c, rfl, h1, h2, h3, hb⟩
  · rw [if_neg h]
    have h : okB op a b = false := by simpa using h
    refine (Encode12_bad op a b w h).mono ?_
    rintro e w' ⟨rfl, hb⟩
    obtain ⟨A, n, c, he, h1, h2, h3⟩ := key w' 0 (.slice none 0 0) [] ⟨rfl, .inl ⟨rfl, rfl⟩⟩
    rw [h, he]
    exact ⟨A, n, c, rfl, h1, h2, h3, hb⟩
set_option maxHeartbeats 1000000 in
theorem bytes7_any (op a b : Int) (w : World) : Calls Tryz.prog 29 #[.agg #[.int .i64 op, .int .i64 a, .int .i64 b]] w fun e w' => e = .returned (.string (strOfNums (bytesW op a b))) ∧ Below w.heap.size w w' := by
  have HE := Lib.hid (EncB op a b)
  have hB0 : Below w.heap.size w (w.alloc (.cells #[.int .i64 op, .int .i64 a, .int .i64 b] 23)) := below_alloc (Below.refl _ _) _
  have HB0 := Lib.hid hB0
  clear hB0
  generalize bytesW op a b = xs at *
  go_enter Tryz.func29, Tryz.ntmps29
  go_wp2_with (go_at_call 52; (with_reducible refine (HE.out _).mono ?_); rintro e w1 ⟨A, n, c, rfl, h1, h2, h3, hb1⟩; have hcv := fun c => string_read (c := c) h3; have HB1 := Lib.hid (below_step HB0.out hb1); clear h3 hb1 h1 h2)
  go_ret
  exact ⟨rfl, HB1.out⟩
theorem show_c1 : (showW 1 (-5) 0).toArray = #[105, 110, 116, 32, 45, 53] := by
  have h : showW 1 (-5) 0 = [105, 110, 116] ++ (32 :: (45 :: Lib.decDigits 5)) := by
    have : okB 1 (-5) 0 = true := by decide +kernel
    unfold showW
    rw [if_pos this]
    unfold showX
    rw [show opsL (ka 1) (kb 1) = [(1, 1)] from by decide +kernel, show nameL 1 = [105, 110, 116] from by decide +kernel]
    simp [flatS, showK, isNamed, valAt, Lib.itoa]
  rw [h, Lib.decDigits_one (by decide)]
  rfl
theorem show_c2 : (showW 9 2 1).toArray = #[103, 101, 116, 32, 50, 32, 73] := by
  have h : showW 9 2 1 = [103, 101, 116] ++ (32 :: Lib.decDigits 2) ++ [32, 73] := by
    have : okB 9 2 1 = true := by decide +kernel
    unfold showW
    rw [if_pos this]
    rfl
  rw [h, Lib.decDigits_one (by decide)]
  rfl
theorem show_c3 : (showW 15 3 0).toArray = #[98, 105, 110, 32, 100, 105, 118] := by
  decide +kernel
theorem show_c4 : (showW 19 17 0).toArray = #[106, 122, 32, 49, 55] := by
  have h : showW 19 17 0 = [106, 122] ++ (32 :: Lib.decDigits 17) := by
    have : okB 19 17 0 = true := by decide +kernel
    unfold showW
    rw [if_pos this]
    unfold showX
    rw [show opsL (ka 19) (kb 19) = [(10, 1)] from by decide +kernel, show nameL 19 = [106, 122] from by decide +kernel]
    simp [flatS, showK, isNamed, valAt, Lib.itoa]
  rw [h, Lib.decDigits_two (by decide) (by decide)]
  rfl
theorem bytes_c1 : strOfNums (bytesW 1 (-5) 0) = ⟨#[1, 9]⟩ := by decide +kernel
theorem bytes_c2 : strOfNums (bytesW 9 2 1) = ⟨#[9, 2, 1]⟩ := by decide +kernel
set_option maxHeartbeats 4000000 in
theorem alive6_any (w : World) (hT : Tabs w) : Calls Tryz.prog 6 #[] w fun e w' => e = .returned (.bool true) ∧ Below w.heap.size w w' := by
  have S1 : Hid (∀ W, Below w.heap.size w W → Calls Tryz.prog 24 #[.agg #[.int .i64 1, .int .i64 (-5), .int .i64 0]] W fun e w' => e = .returned (.string ⟨#[105, 110, 116, 32, 45, 53]⟩) ∧ Below W.heap.size W w') := Lib.hid (fun W h => by rw [← show_c1]; exact Show9_any _ _ _ W (hT.below h))
  have S2 : Hid (∀ W, Below w.heap.size w W → Calls Tryz.prog 24 #[.agg #[.int .i64 9, .int .i64 2, .int .i64 1]] W fun e w' => e = .returned (.string ⟨#[103, 101, 116, 32, 50, 32, 73]⟩) ∧ Below W.heap.size W w') := Lib.hid (fun W h => by rw [← show_c2]; exact Show9_any _ _ _ W (hT.below h))
  have S3 : Hid (∀ W, Below w.heap.size w W → Calls Tryz.prog 24 #[.agg #[.int .i64 15, .int .i64 3, .int .i64 0]] W fun e w' => e = .returned (.string ⟨#[98, 105, 110, 32, 100, 105, 118]⟩) ∧ Below W.heap.size W w') := Lib.hid (fun W h => by rw [← show_c3]; exact Show9_any _ _ _ W (hT.below h))
  have S4 : Hid (∀ W, Below w.heap.size w W → Calls Tryz.prog 24 #[.agg #[.int .i64 19, .int .i64 17, .int .i64 0]] W fun e w' => e = .returned (.string ⟨#[106, 122, 32, 49, 55]⟩) ∧ Below W.heap.size W w') := Lib.hid (fun W h => by rw [← show_c4]; exact Show9_any _ _ _ W (hT.below h))
  have S5 : Hid (∀ W, Calls Tryz.prog 29 #[.agg #[.int .i64 1, .int .i64 (-5), .int .i64 0]] W fun e w' => e = .returned (.string ⟨#[1, 9]⟩) ∧ Below W.heap.size W w') := Lib.hid (fun W => by rw [← bytes_c1]; exact bytes7_any _ _ _ W)
  have S6 : Hid (∀ W, Calls Tryz.prog 29 #[.agg #[.int .i64 9, .int .i64 2, .int .i64 1]] W fun e w' => e = .returned (.string ⟨#[9, 2, 1]⟩) ∧ Below W.heap.size W w') := Lib.hid (fun W => by rw [← bytes_c2]; exact bytes7_any _ _ _ W)
  have HB := Lib.hid (Below.refl w.heap.size w)
  clear hT
  go_enter Tryz.func6, Tryz.ntmps6
  go_wp2_with (first
    | (go_at_call 28; (with_reducible refine (of20_any _ _ _ _).mono ?_); rintro e w' ⟨rfl, hb⟩; replace HB := Lib.hid (below_step HB.out hb); clear hb)
    | (go_at_call 24; (first | with_reducible refine (S1.out _ HB.out).mono ?_ | with_reducible refine (S2.out _ HB.out).mono ?_ | with_reducible refine (S3.out _ HB.out).mono ?_ | with_reducible refine (S4.out _ HB.out).mono ?_); rintro e w' ⟨rfl, hb⟩; replace HB := Lib.hid (below_step HB.out hb); clear hb)
    | (go_at_call 29; (first | with_reducible refine (S5.out _).mono ?_ | with_reducible refine (S6.out _).mono ?_); rintro e w' ⟨rfl, hb⟩; replace HB := Lib.hid (below_step HB.out hb); clear hb))
  go_ret
  exact ⟨rfl, HB.out⟩
end Go.Proofs.YtamagdnlicnefaaGreatDoor
