/- OpcodeUnlike's walk. -/
import Derived.Test.YtamagdnlicnefaaDoorQd
namespace Go.Proofs.YtamagdnlicnefaaDoor
open Go.RowKit Go.Shelf Go.Proofs.YtamagdnlicnefaaDoorW.PrintWords Go.Proofs.YtamagdnlicnefaaDoorW.PrintLast Go.Proofs.YtamagdnlicnefaaDoorW.PrintMore

theorem same_str (x y : ByteArray) : (x.toList == y.toList) = true ↔ x = y := by
  rw [beq_iff_eq, Lib.toList_data, Lib.toList_data]
  constructor
  · intro e
    obtain ⟨⟨x⟩⟩ := x
    obtain ⟨⟨y⟩⟩ := y
    exact congrArg (fun l => (⟨⟨l⟩⟩ : ByteArray)) e
  · rintro rfl; rfl
set_option maxRecDepth 100000 in
set_option maxHeartbeats 8000000 in
theorem unlike_walk (op a b op2 a2 b2 : Int) (w : World) (hT : Tabs w) : Calls Tryd.prog 3 #[.agg #[.int .i64 op, .int .i64 a, .int .i64 b], .agg #[.int .i64 op2, .int .i64 a2, .int .i64 b2]] w fun e w' => e = .returned (.bool true) ∧ Below w.heap.size w w' := by
  have HA : Hid (∀ W, Below w.heap.size w W → Calls Tryd.prog 6 #[] W fun e w' => e = .returned (.bool true) ∧ Below W.heap.size W w') := Lib.hid (fun W h => alive6_any W (hT.below h))
  have HSX : Hid (∀ W, Below w.heap.size w W → Calls Tryd.prog 9 #[.agg #[.int .i64 op, .int .i64 a, .int .i64 b]] W fun e w' => e = .returned (.string ⟨(showW op a b).toArray⟩) ∧ Below W.heap.size W w') := Lib.hid (fun W h => Show9_any _ _ _ W (hT.below h))
  have HSY : Hid (∀ W, Below w.heap.size w W → Calls Tryd.prog 9 #[.agg #[.int .i64 op2, .int .i64 a2, .int .i64 b2]] W fun e w' => e = .returned (.string ⟨(showW op2 a2 b2).toArray⟩) ∧ Below W.heap.size W w') := Lib.hid (fun W h => Show9_any _ _ _ W (hT.below h))
  have HBX := Lib.hid (bytes7_any op a b)
  have HBY := Lib.hid (bytes7_any op2 a2 b2)
  have HCX := Lib.hid (Check8_any op a b)
  have HCY := Lib.hid (Check8_any op2 a2 b2)
  have HFX := Lib.hid (bytes_none op a b)
  have HFS := Lib.hid (fun h h' => show_same (op := op) (a := a) (b := b) (op' := op2) (a' := a2) (b' := b2) h h')
  have HFB := Lib.hid (fun h h' => bytes_same (op := op) (a := a) (b := b) (op' := op2) (a' := a2) (b' := b2) h h')
  have HFP := Lib.hid (fun h h' => bytes_pre (op := op) (a := a) (b := b) (op' := op2) (a' := a2) (b' := b2) h h')
  have HPX := Lib.hid (Tryd.strings_HasPrefix (strOfNums (bytesW op2 a2 b2)) (strOfNums (bytesW op a b)))
  generalize strOfNums (bytesW op a b) = bx at *
  generalize strOfNums (bytesW op2 a2 b2) = by2 at *
  generalize (⟨(showW op a b).toArray⟩ : ByteArray) = sx at *
  generalize (⟨(showW op2 a2 b2).toArray⟩ : ByteArray) = sy at *
  have w2 : Below w.heap.size w ((w.alloc (.cells #[.int .i64 op, .int .i64 a, .int .i64 b] 23)).alloc (.cells #[.int .i64 op2, .int .i64 a2, .int .i64 b2] 23)) := below_alloc (below_alloc (Below.refl _ _) _) _
  have x2 : ((w.alloc (.cells #[.int .i64 op, .int .i64 a, .int .i64 b] 23)).alloc (.cells #[.int .i64 op2, .int .i64 a2, .int .i64 b2] 23)).heap[w.heap.size]? = some (.cells #[.int .i64 op, .int .i64 a, .int .i64 b] 23 (0, 0)) := (Below.heap_alloc _ _ _ (by simp)).trans (World.alloc_heap_new w _)
  have y2 := World.alloc_heap_new (w.alloc (.cells #[.int .i64 op, .int .i64 a, .int .i64 b] 23)) (.cells #[.int .i64 op2, .int .i64 a2, .int .i64 b2] 23)
  rw [World.size_alloc] at y2
  have HW0 := Lib.hid w2
  have HX0 := Lib.hid x2
  have HY0 := Lib.hid y2
  clear w2 x2 y2 hT
  go_enter Tryd.func3, Tryd.ntmps3
  go_wp2_with (go_at_call 6; (with_reducible refine (HA.out _ HW0.out).mono ?_); rintro e w1 ⟨rfl, hb1⟩; have HX1 := Lib.hid ((hb1.block _ (blk_lt HX0.out)).trans HX0.out); have HY1 := Lib.hid ((hb1.block _ (blk_lt HY0.out)).trans HY0.out); have HL1 := Lib.hid (below_step HW0.out hb1); clear hb1)
  have HQ : Hid (∀ W, Below w.heap.size w W ∧ W.heap[w.heap.size]? = some (.cells #[.int .i64 op, .int .i64 a, .int .i64 b] 23 (0, 0)) ∧ W.heap[w.heap.size + 1]? = some (.cells #[.int .i64 op2, .int .i64 a2, .int .i64 b2] 23 (0, 0)) → True) := Lib.hid (fun _ _ => trivial)
  clear HQ
  have HQ : Hid (∀ W, Below w1.heap.size w1 W → W.cell? ⟨w.heap.size, 0, none⟩ = some (.int .i64 op) ∧ W.cell? ⟨w.heap.size, 1, none⟩ = some (.int .i64 a) ∧ W.cell? ⟨w.heap.size, 2, none⟩ = some (.int .i64 b) ∧ W.cell? ⟨w.heap.size + 1, 0, none⟩ = some (.int .i64 op2) ∧ W.cell? ⟨w.heap.size + 1, 1, none⟩ = some (.int .i64 a2) ∧ W.cell? ⟨w.heap.size + 1, 2, none⟩ = some (.int .i64 b2)) := Lib.hid (fun W hW => by
    have g1 := (hW.block _ (blk_lt HX1.out)).trans HX1.out
    have g2 := (hW.block _ (blk_lt HY1.out)).trans HY1.out
    exact ⟨blk_cell g1 0, blk_cell g1 1, blk_cell g1 2, blk_cell g2 0, blk_cell g2 1, blk_cell g2 2⟩)
  have HW : Hid (Below w1.heap.size w1 w1.drew) := Lib.hid (below_drew (Below.refl _ _))
  have HEND : Hid (∀ W, Below w1.heap.size w1 W → Below w.heap.size w W) := Lib.hid (fun W hW => below_step HL1.out hW)
  have HSX2 : Hid (∀ W, Below w1.heap.size w1 W → Calls Tryd.prog 9 #[.agg #[.int .i64 op, .int .i64 a, .int .i64 b]] W fun e w' => e = .returned (.string sx) ∧ Below W.heap.size W w') := Lib.hid (fun W h => HSX.out W (HEND.out W h))
  have HSY2 : Hid (∀ W, Below w1.heap.size w1 W → Calls Tryd.prog 9 #[.agg #[.int .i64 op2, .int .i64 a2, .int .i64 b2]] W fun e w' => e = .returned (.string sy) ∧ Below W.heap.size W w') := Lib.hid (fun W h => HSY.out W (HEND.out W h))
  clear HSX HSY HX0 HY0 HX1 HY1 HL1 HW0 HA
  have HSX := HSX2
  have HSY := HSY2
  clear HSX2 HSY2
  -- region 2: 6 operations: 0:load 1:call 2:load 3:call 4:assign 5:assign
  refine start_ (S := fun W' => W'.cell? ⟨w.heap.size, 0, none⟩ = some (.int .i64 op) ∧ W'.cell? ⟨w.heap.size, 1, none⟩ = some (.int .i64 a) ∧ W'.cell? ⟨w.heap.size, 2, none⟩ = some (.int .i64 b) ∧ W'.cell? ⟨w.heap.size + 1, 0, none⟩ = some (.int .i64 op2) ∧ W'.cell? ⟨w.heap.size + 1, 1, none⟩ = some (.int .i64 a2) ∧ W'.cell? ⟨w.heap.size + 1, 2, none⟩ = some (.int .i64 b2)) (ds := []) #[false, false, false, false, false, false] (by kernel_rfl) rfl rfl (HQ.out _ HW.out) (fun hHeld => ?_)
  refine take_ (i := 0) (N := some 9) (v := ?_) (a' := ?_) #[true, false, false, false, false, false] rfl rfl (by kernel_rfl) (fun _ _ _ h => h) (Or.inl ⟨by rfl, ?_⟩) hHeld ?_ ?_
  rotate_left
  · rintro w' ⟨e0, e1, e2, e3, e4, e5⟩
    go_simp
    with_reducible rfl
  rotate_left
  · simp only [Act.put, List.setIfInBounds_toArray, List.set_cons_zero, List.set_cons_succ]
    rfl
  refine take_ (i := 2) (N := some 11) (v := ?_) (a' := ?_) #[true, false, true, false, false, false] rfl rfl (by kernel_rfl) (fun _ _ _ h => h) (Or.inl ⟨by rfl, ?_⟩) hHeld ?_ ?_
  rotate_left
  · rintro w' ⟨e0, e1, e2, e3, e4, e5⟩
    go_simp
    with_reducible rfl
  rotate_left
  · simp only [Act.put, List.setIfInBounds_toArray, List.set_cons_zero, List.set_cons_succ]
    rfl
  refine one_ (i := 1) (N := some 10) #[true, true, true, false, false, false] rfl rfl (by kernel_rfl) (by decide) (fun K hK => ?_)
  refine goes_ Tryd.func7 (by kernel_rfl) rfl #[.agg #[.int .i64 op, .int .i64 a, .int .i64 b]] (by rfl) rfl rfl (by simp only [List.map_toArray, List.map_cons, List.map_nil]; rfl) ?_
  with_reducible refine (HBX.out _).mono ?_
  rintro e w_ ⟨rfl, hb_⟩
  refine ⟨_, rfl, ?_⟩
  have HW_ := Lib.hid (below_step HW.out hb_)
  clear HW
  have HW := HW_
  clear HW_ hb_
  refine hK.out _ _ (HQ.out _ HW.out) (fun hHeld => ?_)
  clear hK K
  refine norm_ (a' := ?_) ?_ ?_
  rotate_left
  · show Act.put _ (some 10) _ = _
    simp only [Act.put, List.setIfInBounds_toArray, List.set_cons_zero, List.set_cons_succ]
    rfl
  refine one_ (i := 3) (N := some 12) #[true, true, true, true, false, false] rfl rfl (by kernel_rfl) (by decide) (fun K hK => ?_)
  refine goes_ Tryd.func7 (by kernel_rfl) rfl #[.agg #[.int .i64 op2, .int .i64 a2, .int .i64 b2]] (by rfl) rfl rfl (by simp only [List.map_toArray, List.map_cons, List.map_nil]; rfl) ?_
  with_reducible refine (HBY.out _).mono ?_
  rintro e w_ ⟨rfl, hb_⟩
  refine ⟨_, rfl, ?_⟩
  have HW_ := Lib.hid (below_step HW.out hb_)
  clear HW
  have HW := HW_
  clear HW_ hb_
  refine hK.out _ _ (HQ.out _ HW.out) (fun hHeld => ?_)
  clear hK K
  refine norm_ (a' := ?_) ?_ ?_
  rotate_left
  · show Act.put _ (some 12) _ = _
    simp only [Act.put, List.setIfInBounds_toArray, List.set_cons_zero, List.set_cons_succ]
    rfl
  refine pure_ (i := 4) (N := some 6) (v := ?_) (a' := ?_) #[true, true, true, true, true, false] rfl rfl (by kernel_rfl) (fun _ _ _ h => h) (Or.inl ⟨by rfl, ?_⟩) ?_ ?_
  rotate_left
  · intro w'
    go_simp
    with_reducible rfl
  rotate_left
  · simp only [Act.put, List.setIfInBounds_toArray, List.set_cons_zero, List.set_cons_succ]
    rfl
  refine pure_ (i := 5) (N := some 7) (v := ?_) (a' := ?_) #[true, true, true, true, true, true] rfl rfl (by kernel_rfl) (fun _ _ _ h => h) (Or.inl ⟨by rfl, ?_⟩) ?_ ?_
  rotate_left
  · intro w'
    go_simp
    with_reducible rfl
  rotate_left
  · simp only [Act.put, List.setIfInBounds_toArray, List.set_cons_zero, List.set_cons_succ]
    rfl
  refine done_ (by kernel_rfl) ?_
  clear hHeld
  by_cases hx : okB op a b = true
  case neg =>
    have hx : okB op a b = false := by simpa using hx
    rw [hx] at HCX
    have hb := HFX.out.2 hx
    subst hb
    replace HCX : Hid (∀ w, Calls Tryd.prog 8 #[.agg #[.int .i64 op, .int .i64 a, .int .i64 b]] w fun e w' => e = .returned (.int .i64 40) ∧ Below w.heap.size w w') := Lib.hid HCX.out
    have hq := HQ.out _ HW.out
    obtain ⟨q0, q1, q2, q3, q4, q5⟩ := hq
    go_wp2_with (go_at_call 8; (with_reducible refine (HCX.out _).mono ?_); rintro e w_ ⟨rfl, hb_⟩; clear q0 q1 q2 q3 q4 q5; have HW_ := Lib.hid (below_step HW.out hb_); clear HW; have HW := HW_; clear HW_ hb_; obtain ⟨q0, q1, q2, q3, q4, q5⟩ := HQ.out _ HW.out)
    go_ret
    exact ⟨rfl, HEND.out _ HW.out⟩
  replace HCX : Hid (∀ w, Calls Tryd.prog 8 #[.agg #[.int .i64 op, .int .i64 a, .int .i64 b]] w fun e w' => e = .returned (.int .i64 0) ∧ Below w.heap.size w w') := Lib.hid (fun w => by have := HCX.out w; rw [hx] at this; exact this)
  have hbx : (bx.toList == (⟨#[]⟩ : ByteArray).toList) = false := by
    rw [Bool.eq_false_iff, Ne, same_str]
    intro e
    have := HFX.out.1 e
    rw [hx] at this; cases this
  have hbx2 : (bx.toList == []) = false := by rw [← hbx]; simp
  have hbx3 : bx.toList ≠ [] := by intro e; rw [e] at hbx2; cases hbx2
  by_cases hy : okB op2 a2 b2 = true
  case neg =>
    have hy : okB op2 a2 b2 = false := by simpa using hy
    replace HCY : Hid (∀ w, Calls Tryd.prog 8 #[.agg #[.int .i64 op2, .int .i64 a2, .int .i64 b2]] w fun e w' => e = .returned (.int .i64 40) ∧ Below w.heap.size w w') := Lib.hid (fun w => by have := HCY.out w; rw [hy] at this; exact this)
    obtain ⟨q0, q1, q2, q3, q4, q5⟩ := HQ.out _ HW.out
    clear hx hy
    go_wp2_with (go_at_call 8; (first | with_reducible refine (HCX.out _).mono ?_ | with_reducible refine (HCY.out _).mono ?_); rintro e w_ ⟨rfl, hb_⟩; clear q0 q1 q2 q3 q4 q5; have HW_ := Lib.hid (below_step HW.out hb_); clear HW; have HW := HW_; clear HW_ hb_; obtain ⟨q0, q1, q2, q3, q4, q5⟩ := HQ.out _ HW.out)
    go_ret
    exact ⟨rfl, HEND.out _ HW.out⟩
  replace HCY : Hid (∀ w, Calls Tryd.prog 8 #[.agg #[.int .i64 op2, .int .i64 a2, .int .i64 b2]] w fun e w' => e = .returned (.int .i64 0) ∧ Below w.heap.size w w') := Lib.hid (fun w => by have := HCY.out w; rw [hy] at this; exact this)
  have hs := HFS.out hx hy
  have hbb := HFB.out hx hy
  have hp := HFP.out hx hy
  obtain ⟨r, hr⟩ : ∃ r : Bool, r = decide (op = op2 ∧ a = a2 ∧ b = b2) := ⟨_, rfl⟩
  have hs2 : (sx.toList == sy.toList) = r := by rw [hr, Bool.eq_iff_iff, same_str, decide_eq_true_eq]; exact hs
  have hb2 : (bx.toList == by2.toList) = r := by rw [hr, Bool.eq_iff_iff, same_str, decide_eq_true_eq]; exact hbb
  have hp2 : Lib.hasPrefix by2.data.toList bx.data.toList = r := by rw [hr, Bool.eq_iff_iff, decide_eq_true_eq]; exact hp
  replace HPX : Hid (∀ w, Calls Tryd.prog 10 #[.string by2, .string bx] w fun e w' => e = .returned (.bool r) ∧ w' = w) := Lib.hid (fun w => by have := HPX.out w; rw [hp2] at this; exact this)
  obtain ⟨q0, q1, q2, q3, q4, q5⟩ := HQ.out _ HW.out
  have heq : ∀ w' : World, (if op = op2 then if a = a2 then if b = b2 then Result.ok (Next.value (Value.bool true)) w' else Result.ok (Next.value (Value.bool false)) w' else Result.ok (Next.value (Value.bool false)) w' else Result.ok (Next.value (Value.bool false)) w') = Result.ok (Next.value (Value.bool r)) w' := by
    intro w'
    rw [hr]
    by_cases h1 : op = op2
    · by_cases h2 : a = a2
      · by_cases h3 : b = b2
        · simp [h1, h2, h3]
        · simp [h1, h2, h3]
      · simp [h1, h2]
    · simp [h1]
  clear hx hy hs hbb hp hp2 hr HFS HFB HFP HFX
  go_wp2_with (go_at_call 8; (first | with_reducible refine (HCX.out _).mono ?_ | with_reducible refine (HCY.out _).mono ?_); rintro e w_ ⟨rfl, hb_⟩; clear q0 q1 q2 q3 q4 q5; have HW_ := Lib.hid (below_step HW.out hb_); clear HW; have HW := HW_; clear HW_ hb_; obtain ⟨q0, q1, q2, q3, q4, q5⟩ := HQ.out _ HW.out)
  clear q0 q1 q2 q3 q4 q5
  have HW_ := Lib.hid (below_drew HW.out)
  clear HW
  have HW := HW_
  clear HW_
  -- region 5: 31 operations: 0:move 1:move 2:load 3:load 4:binOp 5:move 6:move 7:binOp 8:binOp 9:pick 10:move 11:load 12:load 13:binOp 14:load 15:call 16:load 17:call 18:binOp 19:binOp 20:pick 21:move 22:move 23:move 24:call 25:load 26:load 27:binOp 28:binOp 29:pick 30:assign
  refine start_ (S := fun W' => W'.cell? ⟨w.heap.size, 0, none⟩ = some (.int .i64 op) ∧ W'.cell? ⟨w.heap.size, 1, none⟩ = some (.int .i64 a) ∧ W'.cell? ⟨w.heap.size, 2, none⟩ = some (.int .i64 b) ∧ W'.cell? ⟨w.heap.size + 1, 0, none⟩ = some (.int .i64 op2) ∧ W'.cell? ⟨w.heap.size + 1, 1, none⟩ = some (.int .i64 a2) ∧ W'.cell? ⟨w.heap.size + 1, 2, none⟩ = some (.int .i64 b2)) (ds := []) #[false, false, false, false, false, false, false, false, false, false, false, false, false, false, false, false, false, false, false, false, false, false, false, false, false, false, false, false, false, false, false] (by kernel_rfl) rfl rfl (HQ.out _ HW.out) (fun hHeld => ?_)
  refine pure_ (i := 0) (N := some 34) (v := ?_) (a' := ?_) #[true, false, false, false, false, false, false, false, false, false, false, false, false, false, false, false, false, false, false, false, false, false, false, false, false, false, false, false, false, false, false] rfl rfl (by kernel_rfl) (fun _ _ _ h => h) (Or.inl ⟨by rfl, ?_⟩) ?_ ?_
  rotate_left
  · intro w'
    go_simp
    with_reducible rfl
  rotate_left
  · simp only [Act.put, List.setIfInBounds_toArray, List.set_cons_zero, List.set_cons_succ]
    rfl
  refine pure_ (i := 1) (N := some 35) (v := ?_) (a' := ?_) #[true, true, false, false, false, false, false, false, false, false, false, false, false, false, false, false, false, false, false, false, false, false, false, false, false, false, false, false, false, false, false] rfl rfl (by kernel_rfl) (fun _ _ _ h => h) (Or.inl ⟨by rfl, ?_⟩) ?_ ?_
  rotate_left
  · intro w'
    go_simp
    with_reducible rfl
  rotate_left
  · simp only [Act.put, List.setIfInBounds_toArray, List.set_cons_zero, List.set_cons_succ]
    rfl
  refine pure_ (i := 5) (N := some 39) (v := ?_) (a' := ?_) #[true, true, false, false, false, true, false, false, false, false, false, false, false, false, false, false, false, false, false, false, false, false, false, false, false, false, false, false, false, false, false] rfl rfl (by kernel_rfl) (fun _ _ _ h => h) (Or.inl ⟨by rfl, ?_⟩) ?_ ?_
  rotate_left
  · intro w'
    go_simp
    with_reducible rfl
  rotate_left
  · simp only [Act.put, List.setIfInBounds_toArray, List.set_cons_zero, List.set_cons_succ]
    rfl
  refine pure_ (i := 6) (N := some 40) (v := ?_) (a' := ?_) #[true, true, false, false, false, true, true, false, false, false, false, false, false, false, false, false, false, false, false, false, false, false, false, false, false, false, false, false, false, false, false] rfl rfl (by kernel_rfl) (fun _ _ _ h => h) (Or.inl ⟨by rfl, ?_⟩) ?_ ?_
  rotate_left
  · intro w'
    go_simp
    with_reducible rfl
  rotate_left
  · simp only [Act.put, List.setIfInBounds_toArray, List.set_cons_zero, List.set_cons_succ]
    rfl
  refine pure_ (i := 7) (N := some 41) (v := ?_) (a' := ?_) #[true, true, false, false, false, true, true, true, false, false, false, false, false, false, false, false, false, false, false, false, false, false, false, false, false, false, false, false, false, false, false] rfl rfl (by kernel_rfl) (fun _ _ _ h => h) (Or.inl ⟨by rfl, ?_⟩) ?_ ?_
  rotate_left
  · intro w'
    go_simp
    with_reducible rfl
  rotate_left
  · simp only [Act.put, List.setIfInBounds_toArray, List.set_cons_zero, List.set_cons_succ]
    rfl
  refine take_ (i := 2) (N := some 36) (v := ?_) (a' := ?_) #[true, true, true, false, false, true, true, true, false, false, false, false, false, false, false, false, false, false, false, false, false, false, false, false, false, false, false, false, false, false, false] rfl rfl (by kernel_rfl) (fun _ _ _ h => h) (Or.inl ⟨by rfl, ?_⟩) hHeld ?_ ?_
  rotate_left
  · rintro w' ⟨e0, e1, e2, e3, e4, e5⟩
    go_simp
    with_reducible rfl
  rotate_left
  · simp only [Act.put, List.setIfInBounds_toArray, List.set_cons_zero, List.set_cons_succ]
    rfl
  refine take_ (i := 3) (N := some 37) (v := ?_) (a' := ?_) #[true, true, true, true, false, true, true, true, false, false, false, false, false, false, false, false, false, false, false, false, false, false, false, false, false, false, false, false, false, false, false] rfl rfl (by kernel_rfl) (fun _ _ _ h => h) (Or.inl ⟨by rfl, ?_⟩) hHeld ?_ ?_
  rotate_left
  · rintro w' ⟨e0, e1, e2, e3, e4, e5⟩
    go_simp
    with_reducible rfl
  rotate_left
  · simp only [Act.put, List.setIfInBounds_toArray, List.set_cons_zero, List.set_cons_succ]
    rfl
  refine pure_ (i := 4) (N := some 38) (v := ?_) (a' := ?_) #[true, true, true, true, true, true, true, true, false, false, false, false, false, false, false, false, false, false, false, false, false, false, false, false, false, false, false, false, false, false, false] rfl rfl (by kernel_rfl) (fun _ _ _ h => h) (Or.inl ⟨by rfl, ?_⟩) ?_ ?_
  rotate_left
  · intro w'
    go_simp
    with_reducible rfl
  rotate_left
  · simp only [Act.put, List.setIfInBounds_toArray, List.set_cons_zero, List.set_cons_succ]
    rfl
  refine pure_ (i := 8) (N := some 42) (v := ?_) (a' := ?_) #[true, true, true, true, true, true, true, true, true, false, false, false, false, false, false, false, false, false, false, false, false, false, false, false, false, false, false, false, false, false, false] rfl rfl (by kernel_rfl) (fun _ _ _ h => h) (Or.inl ⟨by rfl, ?_⟩) ?_ ?_
  rotate_left
  · intro w'
    go_simp
    with_reducible rfl
  rotate_left
  · simp only [Act.put, List.setIfInBounds_toArray, List.set_cons_zero, List.set_cons_succ]
    rfl
  refine pure_ (i := 9) (N := some 43) (v := ?_) (a' := ?_) #[true, true, true, true, true, true, true, true, true, true, false, false, false, false, false, false, false, false, false, false, false, false, false, false, false, false, false, false, false, false, false] rfl rfl (by kernel_rfl) (fun _ _ _ h => h) (Or.inl ⟨by rfl, ?_⟩) ?_ ?_
  rotate_left
  · intro w'
    go_simp
    with_reducible rfl
  rotate_left
  · simp only [Act.put, List.setIfInBounds_toArray, List.set_cons_zero, List.set_cons_succ]
    rfl
  refine pure_ (i := 10) (N := some 44) (v := ?_) (a' := ?_) #[true, true, true, true, true, true, true, true, true, true, true, false, false, false, false, false, false, false, false, false, false, false, false, false, false, false, false, false, false, false, false] rfl rfl (by kernel_rfl) (fun _ _ _ h => h) (Or.inl ⟨by rfl, ?_⟩) ?_ ?_
  rotate_left
  · intro w'
    go_simp
    with_reducible rfl
  rotate_left
  · simp only [Act.put, List.setIfInBounds_toArray, List.set_cons_zero, List.set_cons_succ]
    rfl
  refine take_ (i := 11) (N := some 45) (v := ?_) (a' := ?_) #[true, true, true, true, true, true, true, true, true, true, true, true, false, false, false, false, false, false, false, false, false, false, false, false, false, false, false, false, false, false, false] rfl rfl (by kernel_rfl) (fun _ _ _ h => h) (Or.inl ⟨by rfl, ?_⟩) hHeld ?_ ?_
  rotate_left
  · rintro w' ⟨e0, e1, e2, e3, e4, e5⟩
    go_simp
    with_reducible rfl
  rotate_left
  · simp only [Act.put, List.setIfInBounds_toArray, List.set_cons_zero, List.set_cons_succ]
    rfl
  refine take_ (i := 12) (N := some 46) (v := ?_) (a' := ?_) #[true, true, true, true, true, true, true, true, true, true, true, true, true, false, false, false, false, false, false, false, false, false, false, false, false, false, false, false, false, false, false] rfl rfl (by kernel_rfl) (fun _ _ _ h => h) (Or.inl ⟨by rfl, ?_⟩) hHeld ?_ ?_
  rotate_left
  · rintro w' ⟨e0, e1, e2, e3, e4, e5⟩
    go_simp
    with_reducible rfl
  rotate_left
  · simp only [Act.put, List.setIfInBounds_toArray, List.set_cons_zero, List.set_cons_succ]
    rfl
  refine pure_ (i := 13) (N := some 47) (v := ?_) (a' := ?_) #[true, true, true, true, true, true, true, true, true, true, true, true, true, true, false, false, false, false, false, false, false, false, false, false, false, false, false, false, false, false, false] rfl rfl (by kernel_rfl) (fun _ _ _ h => h) (Or.inl ⟨by rfl, ?_⟩) ?_ ?_
  rotate_left
  · intro w'
    go_simp
    with_reducible rfl
  rotate_left
  · simp only [Act.put, List.setIfInBounds_toArray, List.set_cons_zero, List.set_cons_succ]
    rfl
  refine take_ (i := 14) (N := some 48) (v := ?_) (a' := ?_) #[true, true, true, true, true, true, true, true, true, true, true, true, true, true, true, false, false, false, false, false, false, false, false, false, false, false, false, false, false, false, false] rfl rfl (by kernel_rfl) (fun _ _ _ h => h) (Or.inl ⟨by rfl, ?_⟩) hHeld ?_ ?_
  rotate_left
  · rintro w' ⟨e0, e1, e2, e3, e4, e5⟩
    go_simp
    with_reducible rfl
  rotate_left
  · simp only [Act.put, List.setIfInBounds_toArray, List.set_cons_zero, List.set_cons_succ]
    rfl
  refine take_ (i := 16) (N := some 50) (v := ?_) (a' := ?_) #[true, true, true, true, true, true, true, true, true, true, true, true, true, true, true, false, true, false, false, false, false, false, false, false, false, false, false, false, false, false, false] rfl rfl (by kernel_rfl) (fun _ _ _ h => h) (Or.inl ⟨by rfl, ?_⟩) hHeld ?_ ?_
  rotate_left
  · rintro w' ⟨e0, e1, e2, e3, e4, e5⟩
    go_simp
    with_reducible rfl
  rotate_left
  · simp only [Act.put, List.setIfInBounds_toArray, List.set_cons_zero, List.set_cons_succ]
    rfl
  refine one_ (i := 15) (N := some 49) #[true, true, true, true, true, true, true, true, true, true, true, true, true, true, true, true, true, false, false, false, false, false, false, false, false, false, false, false, false, false, false] rfl rfl (by kernel_rfl) (by decide) (fun K hK => ?_)
  refine goes_ Tryd.func9 (by kernel_rfl) rfl #[.agg #[.int .i64 op, .int .i64 a, .int .i64 b]] (by rfl) rfl rfl (by simp only [List.map_toArray, List.map_cons, List.map_nil]; rfl) ?_
  with_reducible refine (HSX.out _ HW.out).mono ?_
  rintro e w_ ⟨rfl, hb_⟩
  refine ⟨_, rfl, ?_⟩
  have HW_ := Lib.hid (below_step HW.out hb_)
  clear HW
  have HW := HW_
  clear HW_ hb_
  refine hK.out _ _ (HQ.out _ HW.out) (fun hHeld => ?_)
  clear hK K
  refine norm_ (a' := ?_) ?_ ?_
  rotate_left
  · show Act.put _ (some 49) _ = _
    simp only [Act.put, List.setIfInBounds_toArray, List.set_cons_zero, List.set_cons_succ]
    rfl
  refine one_ (i := 17) (N := some 51) #[true, true, true, true, true, true, true, true, true, true, true, true, true, true, true, true, true, true, false, false, false, false, false, false, false, false, false, false, false, false, false] rfl rfl (by kernel_rfl) (by decide) (fun K hK => ?_)
  refine goes_ Tryd.func9 (by kernel_rfl) rfl #[.agg #[.int .i64 op2, .int .i64 a2, .int .i64 b2]] (by rfl) rfl rfl (by simp only [List.map_toArray, List.map_cons, List.map_nil]; rfl) ?_
  with_reducible refine (HSY.out _ HW.out).mono ?_
  rintro e w_ ⟨rfl, hb_⟩
  refine ⟨_, rfl, ?_⟩
  have HW_ := Lib.hid (below_step HW.out hb_)
  clear HW
  have HW := HW_
  clear HW_ hb_
  refine hK.out _ _ (HQ.out _ HW.out) (fun hHeld => ?_)
  clear hK K
  refine norm_ (a' := ?_) ?_ ?_
  rotate_left
  · show Act.put _ (some 51) _ = _
    simp only [Act.put, List.setIfInBounds_toArray, List.set_cons_zero, List.set_cons_succ]
    rfl
  refine pure_ (i := 18) (N := some 52) (v := ?_) (a' := ?_) #[true, true, true, true, true, true, true, true, true, true, true, true, true, true, true, true, true, true, true, false, false, false, false, false, false, false, false, false, false, false, false] rfl rfl (by kernel_rfl) (fun _ _ _ h => h) (Or.inl ⟨by rfl, ?_⟩) ?_ ?_
  rotate_left
  · intro w'
    go_simp
    with_reducible rfl
  rotate_left
  · simp only [Act.put, List.setIfInBounds_toArray, List.set_cons_zero, List.set_cons_succ]
    rfl
  refine pure_ (i := 19) (N := some 53) (v := ?_) (a' := ?_) #[true, true, true, true, true, true, true, true, true, true, true, true, true, true, true, true, true, true, true, true, false, false, false, false, false, false, false, false, false, false, false] rfl rfl (by kernel_rfl) (fun _ _ _ h => h) (Or.inl ⟨by rfl, ?_⟩) ?_ ?_
  rotate_left
  · intro w'
    go_simp
    with_reducible rfl
  rotate_left
  · simp only [Act.put, List.setIfInBounds_toArray, List.set_cons_zero, List.set_cons_succ]
    rfl
  refine pure_ (i := 20) (N := some 54) (v := ?_) (a' := ?_) #[true, true, true, true, true, true, true, true, true, true, true, true, true, true, true, true, true, true, true, true, true, false, false, false, false, false, false, false, false, false, false] rfl rfl (by kernel_rfl) (fun _ _ _ h => h) (Or.inl ⟨by rfl, ?_⟩) ?_ ?_
  rotate_left
  · intro w'
    go_simp
    with_reducible rfl
  rotate_left
  · simp only [Act.put, List.setIfInBounds_toArray, List.set_cons_zero, List.set_cons_succ]
    rfl
  refine pure_ (i := 21) (N := some 55) (v := ?_) (a' := ?_) #[true, true, true, true, true, true, true, true, true, true, true, true, true, true, true, true, true, true, true, true, true, true, false, false, false, false, false, false, false, false, false] rfl rfl (by kernel_rfl) (fun _ _ _ h => h) (Or.inl ⟨by rfl, ?_⟩) ?_ ?_
  rotate_left
  · intro w'
    go_simp
    with_reducible rfl
  rotate_left
  · simp only [Act.put, List.setIfInBounds_toArray, List.set_cons_zero, List.set_cons_succ]
    rfl
  refine pure_ (i := 22) (N := some 56) (v := ?_) (a' := ?_) #[true, true, true, true, true, true, true, true, true, true, true, true, true, true, true, true, true, true, true, true, true, true, true, false, false, false, false, false, false, false, false] rfl rfl (by kernel_rfl) (fun _ _ _ h => h) (Or.inl ⟨by rfl, ?_⟩) ?_ ?_
  rotate_left
  · intro w'
    go_simp
    with_reducible rfl
  rotate_left
  · simp only [Act.put, List.setIfInBounds_toArray, List.set_cons_zero, List.set_cons_succ]
    rfl
  refine pure_ (i := 23) (N := some 57) (v := ?_) (a' := ?_) #[true, true, true, true, true, true, true, true, true, true, true, true, true, true, true, true, true, true, true, true, true, true, true, true, false, false, false, false, false, false, false] rfl rfl (by kernel_rfl) (fun _ _ _ h => h) (Or.inl ⟨by rfl, ?_⟩) ?_ ?_
  rotate_left
  · intro w'
    go_simp
    with_reducible rfl
  rotate_left
  · simp only [Act.put, List.setIfInBounds_toArray, List.set_cons_zero, List.set_cons_succ]
    rfl
  refine take_ (i := 25) (N := some 59) (v := ?_) (a' := ?_) #[true, true, true, true, true, true, true, true, true, true, true, true, true, true, true, true, true, true, true, true, true, true, true, true, false, true, false, false, false, false, false] rfl rfl (by kernel_rfl) (fun _ _ _ h => h) (Or.inl ⟨by rfl, ?_⟩) hHeld ?_ ?_
  rotate_left
  · rintro w' ⟨e0, e1, e2, e3, e4, e5⟩
    go_simp
    with_reducible rfl
  rotate_left
  · simp only [Act.put, List.setIfInBounds_toArray, List.set_cons_zero, List.set_cons_succ]
    rfl
  refine take_ (i := 26) (N := some 60) (v := ?_) (a' := ?_) #[true, true, true, true, true, true, true, true, true, true, true, true, true, true, true, true, true, true, true, true, true, true, true, true, false, true, true, false, false, false, false] rfl rfl (by kernel_rfl) (fun _ _ _ h => h) (Or.inl ⟨by rfl, ?_⟩) hHeld ?_ ?_
  rotate_left
  · rintro w' ⟨e0, e1, e2, e3, e4, e5⟩
    go_simp
    with_reducible rfl
  rotate_left
  · simp only [Act.put, List.setIfInBounds_toArray, List.set_cons_zero, List.set_cons_succ]
    rfl
  refine pure_ (i := 27) (N := some 61) (v := ?_) (a' := ?_) #[true, true, true, true, true, true, true, true, true, true, true, true, true, true, true, true, true, true, true, true, true, true, true, true, false, true, true, true, false, false, false] rfl rfl (by kernel_rfl) (fun _ _ _ h => h) (Or.inl ⟨by rfl, ?_⟩) ?_ ?_
  rotate_left
  · intro w'
    go_simp
    with_reducible rfl
  rotate_left
  · simp only [Act.put, List.setIfInBounds_toArray, List.set_cons_zero, List.set_cons_succ]
    rfl
  refine one_ (i := 24) (N := some 58) #[true, true, true, true, true, true, true, true, true, true, true, true, true, true, true, true, true, true, true, true, true, true, true, true, true, true, true, true, false, false, false] rfl rfl (by kernel_rfl) (by decide) (fun K hK => ?_)
  refine goes_ Tryd.func10 (by kernel_rfl) rfl #[.string by2, .string bx] (by rfl) rfl rfl (by simp only [List.map_toArray, List.map_cons, List.map_nil]; rfl) ?_
  with_reducible refine (HPX.out _).mono ?_
  rintro e w_ ⟨rfl, rfl⟩
  refine ⟨_, rfl, ?_⟩
  refine hK.out _ _ (HQ.out _ HW.out) (fun hHeld => ?_)
  clear hK K
  refine norm_ (a' := ?_) ?_ ?_
  rotate_left
  · show Act.put _ (some 58) _ = _
    simp only [Act.put, List.setIfInBounds_toArray, List.set_cons_zero, List.set_cons_succ]
    rfl
  refine pure_ (i := 28) (N := some 62) (v := ?_) (a' := ?_) #[true, true, true, true, true, true, true, true, true, true, true, true, true, true, true, true, true, true, true, true, true, true, true, true, true, true, true, true, true, false, false] rfl rfl (by kernel_rfl) (fun _ _ _ h => h) (Or.inl ⟨by rfl, ?_⟩) ?_ ?_
  rotate_left
  · intro w'
    go_simp
    with_reducible rfl
  rotate_left
  · simp only [Act.put, List.setIfInBounds_toArray, List.set_cons_zero, List.set_cons_succ]
    rfl
  refine pure_ (i := 29) (N := some 63) (v := ?_) (a' := ?_) #[true, true, true, true, true, true, true, true, true, true, true, true, true, true, true, true, true, true, true, true, true, true, true, true, true, true, true, true, true, true, false] rfl rfl (by kernel_rfl) (fun _ _ _ h => h) (Or.inl ⟨by rfl, ?_⟩) ?_ ?_
  rotate_left
  · intro w'
    go_simp
    with_reducible rfl
  rotate_left
  · simp only [Act.put, List.setIfInBounds_toArray, List.set_cons_zero, List.set_cons_succ]
    rfl
  refine pure_ (i := 30) (N := some 4) (v := ?_) (a' := ?_) #[true, true, true, true, true, true, true, true, true, true, true, true, true, true, true, true, true, true, true, true, true, true, true, true, true, true, true, true, true, true, true] rfl rfl (by kernel_rfl) (fun _ _ _ h => h) (Or.inl ⟨by rfl, ?_⟩) ?_ ?_
  rotate_left
  · intro w'
    go_simp
    with_reducible rfl
  rotate_left
  · simp only [Act.put, List.setIfInBounds_toArray, List.set_cons_zero, List.set_cons_succ]
    rfl
  refine done_ (by kernel_rfl) ?_
  go_wp2
  go_ret
  exact ⟨rfl, HEND.out _ HW.out⟩
end Go.Proofs.YtamagdnlicnefaaDoor
