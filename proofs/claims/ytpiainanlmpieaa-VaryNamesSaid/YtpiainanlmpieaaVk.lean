/- Contracts of the Reel: Raw, Bytes. -/
import Derived.Test.YtpiainanlmpieaaVj
namespace Go.Proofs.Ytpiainanlmpieaa
open Go.RowKit Go.Shelf Go.Proofs.YtpiainanlmpieaaW.PrintWords Go.Proofs.YtpiainanlmpieaaW.PrintLast Go.Proofs.YtpiainanlmpieaaW.PrintMore

/-- What Raw answers: the bytes, the code, how far the place goes. -/
def readR (bs : List Int) (p : Nat) (n : Int) : List Int × Nat × Nat :=
  if n < 0 then ([], 2, 0) else if (bs.length : Int) - p < n then ([], 10, 0) else ((bs.take (p + n.toNat)).drop p, 0, n.toNat)

set_option maxRecDepth 100000 in
set_option maxHeartbeats 2000000 in
theorem Raw_any (w : World) (g base : Nat) (v : Value) (bs : List Int) (p : Nat) (n : Int) (hR : ReelIs w g base v bs p) (h0 : -9223372036854775808 ≤ n) (h1 : n ≤ 9223372036854775807) :
    Calls Try.prog 35 #[.pointer (some ⟨g, 0, none⟩), .int .i64 n] w fun e w' => ∃ u, e = .returned (.tuple #[u, .int .i64 (readR bs p n).2.1]) ∧
      w'.ownsRow w.heap.size 5 1 u (readR bs p n).1.length (nums .u8 (readR bs p n).1) ∧ ReelIs w' g base v bs (p + (readR bs p n).2.2) ∧ Fr (fun i => i = g) w w' := by
  have hc0 : w.cell? ⟨g, 0, none⟩ = some v := blk_cell hR.blk 0
  have hc1 : w.cell? ⟨g, 1, none⟩ = some (.int .i64 p) := blk_cell hR.blk 1
  have hs := hR.small
  have hp := hR.le
  obtain ⟨A, c, rfl⟩ := own_slice hR.own
  have hcap := (row_C hR.own).2.1
  by_cases hn : n < 0
  · have e : readR bs p n = ([], 2, 0) := by unfold readR; rw [if_pos hn]
    rw [e]
    have HR := Lib.hid hR
    clear hR e
    go_enter Try.func35, Try.ntmps35
    go_wp2
    go_ret2
    exact ⟨_, rfl, World.ownsRow_nil _ _ _ _, HR.out, Fr.refl _ _⟩
  · obtain ⟨k, rfl⟩ := Int.eq_ofNat_of_zero_le (show 0 ≤ n by omega)
    by_cases hlt : (bs.length : Int) - p < (k : Int)
    · have e : readR bs p k = ([], 10, 0) := by unfold readR; rw [if_neg hn, if_pos hlt]
      rw [e]
      have h' : decide ((bs.length : Int) - p < (k : Int)) = true := decide_eq_true hlt
      have HR := Lib.hid hR
      clear hR e
      go_enter Try.func35, Try.ntmps35
      go_wp2
      go_quiet (fail)
      go_wp2
      go_ret2
      exact ⟨_, rfl, World.ownsRow_nil _ _ _ _, HR.out.below (pw_below_drewN (Below.refl _ _) _), Fr.of_below (pw_below_drewN (Below.refl _ _) _)⟩
    · have e : readR bs p k = ((bs.take (p + k)).drop p, 0, k) := by unfold readR; rw [if_neg hn, if_neg hlt, Int.toNat_natCast]
      rw [e]
      have h' : decide ((bs.length : Int) - p < (k : Int)) = false := decide_eq_false hlt
      obtain ⟨q, hq⟩ : ∃ q, q = p + k := ⟨_, rfl⟩
      simp only [← hq]
      have hqs : IntKind.i64.wrap ((p : Int) + (k : Int)) = (q : Int) := by rw [IntKind.wrap_i64]; omega
      obtain ⟨A', hcut, hcc⟩ := cut_read A c p q bs (by omega) (by omega) hcap
      have HR := Lib.hid hR
      have HCC := Lib.hid hcc
      have HQ := Lib.hid hq
      clear hR e hcc hq
      go_enter Try.func35, Try.ntmps35
      go_wp2
      go_quiet (fail)
      go_wp2
      have HR1 := Lib.hid (HR.out.below (pw_below_drewN (Below.refl _ _) nq))
      have HF1 := Lib.hid (pw_below_drewN (Below.refl w.heap.size w) nq)
      have hsz : (w.drewN nq).heap.size = w.heap.size := by simp
      generalize w.drewN nq = w1 at *
      clear hc0 hc1
      have HSZ := Lib.hid hsz
      clear hsz
      have hc0 : w1.cell? ⟨g, 0, none⟩ = some (.slice A bs.length c) := blk_cell HR1.out.blk 0
      have hc1 : w1.cell? ⟨g, 1, none⟩ = some (.int .i64 p) := blk_cell HR1.out.blk 1
      have hCd := HCC.out w1.drew (Kd.C_below (row_C HR1.out.own).2.2 (below_drew (Below.refl _ _)))
      have hln : ((bs.take q).drop p).length = q - p := by have := HQ.out; rw [List.length_drop, List.length_take]; omega
      have hcl := Clone_any A' (c - p) ((bs.take q).drop p) w1.drew (hln ▸ hCd) (by rw [hln]; have := HQ.out; omega)
      rw [hln] at hcl
      have HCL := Lib.hid hcl
      have HLN := Lib.hid hln
      clear hcl hln hCd
      -- region 7: 17 operations: 0:move 1:nilCheck 2:fieldAddr 3:load 4:move 5:nilCheck 6:fieldAddr 7:load 8:move 9:nilCheck 10:fieldAddr 11:load 12:move 13:binOp 14:slice 15:call 16:assign
      refine start_ (S := fun W' => W'.cell? ⟨g, 0, none⟩ = some (.slice A bs.length c) ∧ W'.cell? ⟨g, 1, none⟩ = some (.int .i64 p)) (ds := []) #[false, false, false, false, false, false, false, false, false, false, false, false, false, false, false, false, false] (by kernel_rfl) rfl rfl ⟨by go_simp, by go_simp⟩ (fun hHeld => ?_)
      refine pure_ (i := 0) (N := some 26) (v := ?_) (a' := ?_) #[true, false, false, false, false, false, false, false, false, false, false, false, false, false, false, false, false] rfl rfl (by kernel_rfl) (fun _ _ _ h => h) (Or.inl ⟨by rfl, ?_⟩) ?_ ?_
      rotate_left
      · intro w'
        go_simp
        with_reducible rfl
      rotate_left
      · simp only [Act.put, List.setIfInBounds_toArray, List.set_cons_zero, List.set_cons_succ]
        rfl
      refine pure_ (i := 1) (N := some 27) (v := ?_) (a' := ?_) #[true, true, false, false, false, false, false, false, false, false, false, false, false, false, false, false, false] rfl rfl (by kernel_rfl) (fun _ _ _ h => h) (Or.inl ⟨by rfl, ?_⟩) ?_ ?_
      rotate_left
      · intro w'
        go_simp
        with_reducible rfl
      rotate_left
      · simp only [Act.put, List.setIfInBounds_toArray, List.set_cons_zero, List.set_cons_succ]
        rfl
      refine pure_ (i := 2) (N := some 28) (v := ?_) (a' := ?_) #[true, true, true, false, false, false, false, false, false, false, false, false, false, false, false, false, false] rfl rfl (by kernel_rfl) (fun _ _ _ h => h) (Or.inl ⟨by rfl, ?_⟩) ?_ ?_
      rotate_left
      · intro w'
        go_simp
        with_reducible rfl
      rotate_left
      · simp only [Act.put, List.setIfInBounds_toArray, List.set_cons_zero, List.set_cons_succ]
        rfl
      refine pure_ (i := 4) (N := some 30) (v := ?_) (a' := ?_) #[true, true, true, false, true, false, false, false, false, false, false, false, false, false, false, false, false] rfl rfl (by kernel_rfl) (fun _ _ _ h => h) (Or.inl ⟨by rfl, ?_⟩) ?_ ?_
      rotate_left
      · intro w'
        go_simp
        with_reducible rfl
      rotate_left
      · simp only [Act.put, List.setIfInBounds_toArray, List.set_cons_zero, List.set_cons_succ]
        rfl
      refine pure_ (i := 5) (N := some 31) (v := ?_) (a' := ?_) #[true, true, true, false, true, true, false, false, false, false, false, false, false, false, false, false, false] rfl rfl (by kernel_rfl) (fun _ _ _ h => h) (Or.inl ⟨by rfl, ?_⟩) ?_ ?_
      rotate_left
      · intro w'
        go_simp
        with_reducible rfl
      rotate_left
      · simp only [Act.put, List.setIfInBounds_toArray, List.set_cons_zero, List.set_cons_succ]
        rfl
      refine pure_ (i := 6) (N := some 32) (v := ?_) (a' := ?_) #[true, true, true, false, true, true, true, false, false, false, false, false, false, false, false, false, false] rfl rfl (by kernel_rfl) (fun _ _ _ h => h) (Or.inl ⟨by rfl, ?_⟩) ?_ ?_
      rotate_left
      · intro w'
        go_simp
        with_reducible rfl
      rotate_left
      · simp only [Act.put, List.setIfInBounds_toArray, List.set_cons_zero, List.set_cons_succ]
        rfl
      refine pure_ (i := 8) (N := some 34) (v := ?_) (a' := ?_) #[true, true, true, false, true, true, true, false, true, false, false, false, false, false, false, false, false] rfl rfl (by kernel_rfl) (fun _ _ _ h => h) (Or.inl ⟨by rfl, ?_⟩) ?_ ?_
      rotate_left
      · intro w'
        go_simp
        with_reducible rfl
      rotate_left
      · simp only [Act.put, List.setIfInBounds_toArray, List.set_cons_zero, List.set_cons_succ]
        rfl
      refine pure_ (i := 9) (N := some 35) (v := ?_) (a' := ?_) #[true, true, true, false, true, true, true, false, true, true, false, false, false, false, false, false, false] rfl rfl (by kernel_rfl) (fun _ _ _ h => h) (Or.inl ⟨by rfl, ?_⟩) ?_ ?_
      rotate_left
      · intro w'
        go_simp
        with_reducible rfl
      rotate_left
      · simp only [Act.put, List.setIfInBounds_toArray, List.set_cons_zero, List.set_cons_succ]
        rfl
      refine pure_ (i := 10) (N := some 36) (v := ?_) (a' := ?_) #[true, true, true, false, true, true, true, false, true, true, true, false, false, false, false, false, false] rfl rfl (by kernel_rfl) (fun _ _ _ h => h) (Or.inl ⟨by rfl, ?_⟩) ?_ ?_
      rotate_left
      · intro w'
        go_simp
        with_reducible rfl
      rotate_left
      · simp only [Act.put, List.setIfInBounds_toArray, List.set_cons_zero, List.set_cons_succ]
        rfl
      refine pure_ (i := 12) (N := some 38) (v := ?_) (a' := ?_) #[true, true, true, false, true, true, true, false, true, true, true, false, true, false, false, false, false] rfl rfl (by kernel_rfl) (fun _ _ _ h => h) (Or.inl ⟨by rfl, ?_⟩) ?_ ?_
      rotate_left
      · intro w'
        go_simp
        with_reducible rfl
      rotate_left
      · simp only [Act.put, List.setIfInBounds_toArray, List.set_cons_zero, List.set_cons_succ]
        rfl
      refine take_ (i := 3) (N := some 29) (v := ?_) (a' := ?_) #[true, true, true, true, true, true, true, false, true, true, true, false, true, false, false, false, false] rfl rfl (by kernel_rfl) (fun _ _ _ h => h) (Or.inl ⟨by rfl, ?_⟩) hHeld ?_ ?_
      rotate_left
      · rintro w' ⟨h1, h2⟩
        go_simp
        with_reducible rfl
      rotate_left
      · simp only [Act.put, List.setIfInBounds_toArray, List.set_cons_zero, List.set_cons_succ]
        rfl
      refine take_ (i := 7) (N := some 33) (v := ?_) (a' := ?_) #[true, true, true, true, true, true, true, true, true, true, true, false, true, false, false, false, false] rfl rfl (by kernel_rfl) (fun _ _ _ h => h) (Or.inl ⟨by rfl, ?_⟩) hHeld ?_ ?_
      rotate_left
      · rintro w' ⟨h1, h2⟩
        go_simp
        with_reducible rfl
      rotate_left
      · simp only [Act.put, List.setIfInBounds_toArray, List.set_cons_zero, List.set_cons_succ]
        rfl
      refine take_ (i := 11) (N := some 37) (v := ?_) (a' := ?_) #[true, true, true, true, true, true, true, true, true, true, true, true, true, false, false, false, false] rfl rfl (by kernel_rfl) (fun _ _ _ h => h) (Or.inl ⟨by rfl, ?_⟩) hHeld ?_ ?_
      rotate_left
      · rintro w' ⟨h1, h2⟩
        go_simp
        with_reducible rfl
      rotate_left
      · simp only [Act.put, List.setIfInBounds_toArray, List.set_cons_zero, List.set_cons_succ]
        rfl
      refine pure_ (i := 13) (N := some 39) (v := ?_) (a' := ?_) #[true, true, true, true, true, true, true, true, true, true, true, true, true, true, false, false, false] rfl rfl (by kernel_rfl) (fun _ _ _ h => h) (Or.inl ⟨by rfl, ?_⟩) ?_ ?_
      rotate_left
      · intro w'
        go_simp
        with_reducible rfl
      rotate_left
      · simp only [Act.put, List.setIfInBounds_toArray, List.set_cons_zero, List.set_cons_succ]
        rfl
      refine pure_ (i := 14) (N := some 40) (v := ?_) (a' := ?_) #[true, true, true, true, true, true, true, true, true, true, true, true, true, true, true, false, false] rfl rfl (by kernel_rfl) (fun _ _ _ h => h) (Or.inl ⟨by rfl, ?_⟩) ?_ ?_
      rotate_left
      · intro w'
        go_simp
        with_reducible rfl
      rotate_left
      · simp only [Act.put, List.setIfInBounds_toArray, List.set_cons_zero, List.set_cons_succ]
        rfl
      refine one_ (i := 15) (N := some 41) #[true, true, true, true, true, true, true, true, true, true, true, true, true, true, true, true, false] rfl rfl (by kernel_rfl) (by decide) (fun K hK => ?_)
      refine goes_ Try.func45 (by kernel_rfl) rfl #[.slice A' (q - p) (c - p)] (by rfl) rfl rfl (by simp only [List.map_toArray, List.map_cons, List.map_nil]; rfl) ?_
      refine HCL.out.mono ?_
      rintro e w3 ⟨u, rfl, ho3, hb3⟩
      refine ⟨_, rfl, ?_⟩
      have HO3 := Lib.hid ho3
      have HB3 := Lib.hid hb3
      have z0 := pw_cell_below hb3 (by go_simp : w1.drew.cell? ⟨g, 0, none⟩ = some (.slice A bs.length c))
      have z1 := pw_cell_below hb3 (by go_simp : w1.drew.cell? ⟨g, 1, none⟩ = some (.int .i64 p))
      clear ho3 hb3
      refine hK.out _ _ ⟨z0, z1⟩ (fun hHeld => ?_)
      clear hK K
      refine norm_ (a' := ?_) ?_ ?_
      rotate_left
      · show Act.put _ (some 41) _ = _
        simp only [Act.put, List.setIfInBounds_toArray, List.set_cons_zero, List.set_cons_succ]
        rfl
      refine pure_ (i := 16) (N := some 6) (v := ?_) (a' := ?_) #[true, true, true, true, true, true, true, true, true, true, true, true, true, true, true, true, true] rfl rfl (by kernel_rfl) (fun _ _ _ h => h) (Or.inl ⟨by rfl, ?_⟩) ?_ ?_
      rotate_left
      · intro w'
        go_simp
        with_reducible rfl
      rotate_left
      · simp only [Act.put, List.setIfInBounds_toArray, List.set_cons_zero, List.set_cons_succ]
        rfl
      refine done_ (by kernel_rfl) ?_

      have hR3 := (HR1.out.below (below_drew (Below.refl _ _))).below HB3.out
      have hF3 : Fr (fun i => i = g) w w3 := Fr.of_below (HF1.out.trans (HSZ.out ▸ ((below_drew (Below.refl _ w1)).trans HB3.out)))
      have HF3 := Lib.hid hF3
      have HR3 := Lib.hid hR3
      have hgl : g < w.heap.size := blk_lt HR.out.blk
      have HGL := Lib.hid hgl
      clear hR3 hF3 z0 z1 hHeld hcut hgl
      go_wp2_with (go_at_call 48; (with_reducible refine (move_any _ g base _ bs p k HR3.out (by omega)).mono ?_); rintro e w4 ⟨rfl, hR4, hF4⟩)
      go_ret2
      rw [← HQ.out] at hR4
      have ho := HO3.out
      rw [show w1.drew.heap.size = w.heap.size from HSZ.out] at ho
      refine ⟨u, rfl, ?_, hR4, HF3.out.trans hF4 (fun _ _ h => h)⟩
      rw [HLN.out]
      refine own_fr ho hF4 (fun b hb e => ?_)
      have := (World.ownsRow.lt ho b hb).1
      have := HGL.out
      omega

/-- What Bytes answers: the bytes, the code, how far the place goes. -/
def readB (bs : List Int) (p : Nat) (most : Int) : List Int × Nat × Nat :=
  if (look (rest bs p)).2.2 = 0 then
    (if most.toNat < (look (rest bs p)).1 then ([], 12, 0)
    else if bs.length - p - (look (rest bs p)).2.1 < (look (rest bs p)).1 then ([], 10, 0)
    else ((bs.take (p + (look (rest bs p)).2.1 + (look (rest bs p)).1)).drop (p + (look (rest bs p)).2.1), 0, (look (rest bs p)).2.1 + (look (rest bs p)).1))
  else ([], (look (rest bs p)).2.2, 0)

attribute [local go_sem] max2_int min2_int max_two min_two max_three min_three max_four min_four
set_option maxRecDepth 100000 in
set_option maxHeartbeats 2000000 in
theorem RBytes_any (w : World) (g base : Nat) (v : Value) (bs : List Int) (p : Nat) (most : Int) (hR : ReelIs w g base v bs p) (h0 : -9223372036854775808 ≤ most) (h1 : most ≤ 9223372036854775807) :
    Calls Try.prog 33 #[.pointer (some ⟨g, 0, none⟩), .int .i64 most] w fun e w' => ∃ u, e = .returned (.tuple #[u, .int .i64 (readB bs p most).2.1]) ∧
      w'.ownsRow w.heap.size 5 1 u (readB bs p most).1.length (nums .u8 (readB bs p most).1) ∧ ReelIs w' g base v bs (p + (readB bs p most).2.2) ∧ Fr (fun i => i = g) w w' := by
  have hs := hR.small
  have hp := hR.le
  by_cases he : (look (rest bs p)).2.2 = 0
  · obtain ⟨hw1, hw2⟩ := look_wide bs p hR.le hR.bytes he
    have hf := find_any w g base v bs p hR
    have ef : foundV g (look (rest bs p)) = .agg #[.int .u64 (look (rest bs p)).1, .int .i64 (look (rest bs p)).2.1, .func (.func 48) #[.pointer (some ⟨g, 0, none⟩)] #[]] := by unfold foundV; rw [if_pos he]
    rw [ef, he] at hf
    obtain ⟨M, hM⟩ : ∃ M : Nat, (most < 0 ∧ M = 0) ∨ (most = 0 ∧ M = 0) ∨ (0 < (M : Int) ∧ most = (M : Int)) := by
      by_cases h : most < 0
      · exact ⟨0, .inl ⟨h, rfl⟩⟩
      · exact ⟨most.toNat, by omega⟩
    have hMt : most.toNat = M := by omega
    by_cases hm : M < (look (rest bs p)).1
    · have e : readB bs p most = ([], 12, 0) := by unfold readB; rw [if_pos he, hMt, if_pos hm]
      rw [e]
      generalize (look (rest bs p)).1 = n at *
      generalize (look (rest bs p)).2.1 = k at *
      have HF := Lib.hid hf
      clear hf he e ef hMt
      have hm' : (M : Int) < (n : Int) := by omega
      rcases hM with ⟨hneg, rfl⟩ | ⟨rfl, rfl⟩ | ⟨hpos, rfl⟩
      all_goals
        go_enter Try.func33, Try.ntmps33
        go_wp2_with (first | (go_at_call 46; refine HF.out.mono ?_; rintro e w1 ⟨rfl, hb⟩))
        go_ret2
        have hb2 := hb.trans ((below_alloc (Below.refl _ w1) (.cells #[.int .u64 n, .int .i64 k, .func (.func 48) #[.pointer (some ⟨g, 0, none⟩)] #[]] 81)).mono hb.size)
        exact ⟨_, rfl, World.ownsRow_nil _ _ _ _, hR.below hb2, Fr.of_below hb2⟩
    · by_cases hsh : bs.length - p - (look (rest bs p)).2.1 < (look (rest bs p)).1
      · have e : readB bs p most = ([], 10, 0) := by unfold readB; rw [if_pos he, hMt, if_neg hm, if_pos hsh]
        rw [e]
        generalize (look (rest bs p)).1 = n at *
        generalize (look (rest bs p)).2.1 = k at *
        have HF := Lib.hid hf
        clear hf he e ef hMt
        have hm' : ¬ (M : Int) < (n : Int) := by omega
        obtain ⟨A, c, rfl⟩ := own_slice hR.own
        have HR := Lib.hid hR
        have hd : decide ((bs.length : Int) - p - k < (n : Int)) = true := decide_eq_true (by omega)
        have hg : g < w.heap.size := blk_lt hR.blk
        clear hR
        rcases hM with ⟨hneg, rfl⟩ | ⟨rfl, rfl⟩ | ⟨hpos, rfl⟩
        · exfalso; omega
        · exfalso; omega
        · go_enter Try.func33, Try.ntmps33
          go_wp2_with (first | (go_at_call 46; refine HF.out.mono ?_; rintro e w1 ⟨rfl, hb⟩; have HB := Lib.hid hb; clear hb))
          have hX := World.alloc_heap_new w1 (.cells #[.int .u64 n, .int .i64 k, .func (.func 48) #[.pointer (some ⟨g, 0, none⟩)] #[]] 81)
          have HR2 := Lib.hid ((HR.out.below HB.out).below (below_alloc (Below.refl _ w1) (.cells #[.int .u64 n, .int .i64 k, .func (.func 48) #[.pointer (some ⟨g, 0, none⟩)] #[]] 81)))
          have HB2 := Lib.hid (HB.out.trans ((below_alloc (Below.refl _ w1) (.cells #[.int .u64 n, .int .i64 k, .func (.func 48) #[.pointer (some ⟨g, 0, none⟩)] #[]] 81)).mono HB.out.size))
          generalize w1.alloc (.cells #[.int .u64 n, .int .i64 k, .func (.func 48) #[.pointer (some ⟨g, 0, none⟩)] #[]] 81) = w2 at *
          have x0 := blk_cell hX 0
          have x1 := blk_cell hX 1
          simp only [List.getElem?_toArray, List.getElem?_cons_zero, List.getElem?_cons_succ] at x0 x1
          have z0 : w2.cell? ⟨g, 0, none⟩ = some (.slice A bs.length c) := blk_cell HR2.out.blk 0
          have z1 : w2.cell? ⟨g, 1, none⟩ = some (.int .i64 p) := blk_cell HR2.out.blk 1
          clear hX
          go_quiet (fail)
          go_wp2
          go_ret2
          exact ⟨_, rfl, World.ownsRow_nil _ _ _ _, HR2.out.below (pw_below_drewN (Below.refl _ _) _), Fr.of_below (pw_below_drewN HB2.out _)⟩
      · have e : readB bs p most = ((bs.take (p + (look (rest bs p)).2.1 + (look (rest bs p)).1)).drop (p + (look (rest bs p)).2.1), 0, (look (rest bs p)).2.1 + (look (rest bs p)).1) := by unfold readB; rw [if_pos he, hMt, if_neg hm, if_neg hsh]
        rw [e]
        generalize (look (rest bs p)).1 = n at *
        generalize (look (rest bs p)).2.1 = k at *
        have HF := Lib.hid hf
        clear hf he e ef hMt
        have hm' : ¬ (M : Int) < (n : Int) := by omega
        have hn47 : (n : Int) ≤ 140737488355328 := by omega
        obtain ⟨A, c, rfl⟩ := own_slice hR.own
        have HR := Lib.hid hR
        have hd : decide ((bs.length : Int) - p - k < (n : Int)) = false := decide_eq_false (by omega)
        have hg : g < w.heap.size := blk_lt hR.blk
        have hrd : readR bs (p + k) n = ((bs.take (p + k + n)).drop (p + k), 0, n) := by unfold readR; rw [if_neg (by omega), if_neg (by omega), Int.toNat_natCast]
        have HRD := Lib.hid hrd
        clear hR hrd
        rcases hM with ⟨hneg, rfl⟩ | ⟨rfl, rfl⟩ | ⟨hpos, rfl⟩
        all_goals
          go_enter Try.func33, Try.ntmps33
          go_wp2_with (first | (go_at_call 46; refine HF.out.mono ?_; rintro e w1 ⟨rfl, hb⟩; have HB := Lib.hid hb; clear hb))
          have hX := World.alloc_heap_new w1 (.cells #[.int .u64 n, .int .i64 k, .func (.func 48) #[.pointer (some ⟨g, 0, none⟩)] #[]] 81)
          have HR2 := Lib.hid ((HR.out.below HB.out).below (below_alloc (Below.refl _ w1) (.cells #[.int .u64 n, .int .i64 k, .func (.func 48) #[.pointer (some ⟨g, 0, none⟩)] #[]] 81)))
          have HB2 := Lib.hid (HB.out.trans ((below_alloc (Below.refl _ w1) (.cells #[.int .u64 n, .int .i64 k, .func (.func 48) #[.pointer (some ⟨g, 0, none⟩)] #[]] 81)).mono HB.out.size))
          have hgl : g < w1.heap.size := by have := HB.out.size; omega
          have HGL := Lib.hid hgl
          clear hgl
          generalize w1.alloc (.cells #[.int .u64 n, .int .i64 k, .func (.func 48) #[.pointer (some ⟨g, 0, none⟩)] #[]] 81) = w2 at *
          have x0 := blk_cell hX 0
          have x1 := blk_cell hX 1
          simp only [List.getElem?_toArray, List.getElem?_cons_zero, List.getElem?_cons_succ] at x0 x1
          have z0 : w2.cell? ⟨g, 0, none⟩ = some (.slice A bs.length c) := blk_cell HR2.out.blk 0
          have z1 : w2.cell? ⟨g, 1, none⟩ = some (.int .i64 p) := blk_cell HR2.out.blk 1
          have HX := Lib.hid hX
          clear hX
          go_quiet (fail)
          have HR3 := Lib.hid (HR2.out.below (pw_below_drewN (Below.refl _ _) nq))
          have HB3 := Lib.hid (pw_below_drewN HB2.out nq)
          have hX3 : (w2.drewN nq).heap[w1.heap.size]? = some (.cells #[.int .u64 n, .int .i64 k, .func (.func 48) #[.pointer (some ⟨g, 0, none⟩)] #[]] 81 (0, 0)) := by simpa using HX.out
          clear x0 x1 z0 z1 HR2 HB2 HX
          generalize w2.drewN nq = w3 at *
          have HX3 := Lib.hid hX3
          have x0 := blk_cell hX3 0
          have x1 := blk_cell hX3 1
          have x2 := blk_cell hX3 2
          simp only [List.getElem?_toArray, List.getElem?_cons_zero, List.getElem?_cons_succ] at x0 x1 x2
          clear hX3
          go_wp2_with (first | (go_at_call 48; (with_reducible refine (move_any _ g base _ bs p k HR3.out (by omega)).mono ?_); rintro e w4 ⟨rfl, hR4, hF4⟩; have y0 := blk_cell ((hF4.block w1.heap.size (blk_lt HX3.out) (by have := HGL.out; omega)).trans HX3.out) 0; simp only [List.getElem?_toArray, List.getElem?_cons_zero] at y0; have HR4 := Lib.hid hR4; have HF4 := Lib.hid hF4; clear hR4 hF4) | (go_at_call 35; (with_reducible refine (Raw_any _ g base _ bs (p + k) n HR4.out (by omega) (by omega)).mono ?_); rintro e w5 ⟨u, rfl, ho5, hR5, hF5⟩; rw [HRD.out] at ho5 hR5 ⊢; have HO5 := Lib.hid ho5; have HR5 := Lib.hid hR5; have HF5 := Lib.hid hF5; clear ho5 hR5 hF5))
          go_ret2
          have hs3 := HB3.out.size
          have hs4 := HF4.out.size
          refine ⟨u, rfl, own_less HO5.out (by omega), by rw [← Nat.add_assoc]; exact HR5.out, ((Fr.of_below HB3.out : Fr (fun i => i = g) w _).trans HF4.out (fun _ _ h => h)).trans HF5.out (fun _ _ h => h)⟩
  · have e : readB bs p most = ([], (look (rest bs p)).2.2, 0) := by unfold readB; rw [if_neg he]
    rw [e]
    have hf := find_any w g base v bs p hR
    have ef : foundV g (look (rest bs p)) = .agg #[.int .u64 0, .int .i64 0, .nilFunc] := by unfold foundV; rw [if_neg he]
    rw [ef] at hf
    generalize (look (rest bs p)).2.2 = k at *
    have hk : ((k : Int) != 0) = true := by simp; omega
    have HF := Lib.hid hf
    clear hf he e ef
    go_enter Try.func33, Try.ntmps33
    go_wp2_with (go_at_call 46; refine HF.out.mono ?_; rintro e w1 ⟨rfl, hb⟩)
    go_ret2
    have hb2 := hb.trans ((below_alloc (Below.refl _ w1) (.cells #[.int .u64 0, .int .i64 0, .nilFunc] 81)).mono hb.size)
    exact ⟨_, rfl, World.ownsRow_nil _ _ _ _, hR.below hb2, Fr.of_below hb2⟩
end Go.Proofs.Ytpiainanlmpieaa
