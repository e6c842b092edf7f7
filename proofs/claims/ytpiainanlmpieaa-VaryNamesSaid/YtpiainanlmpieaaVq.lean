/- Contracts of the document's Reel: Number, Signed, Raw, Bytes, End. -/
import Derived.Test.YtpiainanlmpieaaVn
import Derived.Test.YtpiainanlmpieaaVk
import Derived.Test.YtpiainanlmpieaaVh
namespace Go.Proofs.Ytpiainanlmpieaa
open Go.RowKit Go.Shelf Go.Proofs.YtpiainanlmpieaaW.PrintWords Go.Proofs.YtpiainanlmpieaaW.PrintLast Go.Proofs.YtpiainanlmpieaaW.PrintMore

theorem RefRNumber_any (w : World) (g base : Nat) (v : Value) (bs : List Int) (p : Nat) (most : Int) (hR : RefIs w g base v bs p) :
    Calls Try.prog 31 #[.pointer (some ⟨g, 0, none⟩), .int .u64 most] w fun e w' => e = .returned (.tuple #[.int .u64 (readN (rest bs p) most).1, .int .i64 (readN (rest bs p) most).2.1]) ∧
      RefIs w' g base v bs (p + (readN (rest bs p) most).2.2) ∧ Fr (fun i => i = g) w w' := by
  have hs := hR.small
  by_cases he : (look (rest bs p)).2.2 = 0
  · obtain ⟨hw1, hw2⟩ := look_wide bs p hR.le hR.bytes he
    have hf := RefLook_any w g base v bs p hR
    rw [he] at hf
    by_cases hm : most < (look (rest bs p)).1
    · have e : readN (rest bs p) most = (0, 12, 0) := by unfold readN; rw [if_pos he, if_pos hm]
      rw [e]
      generalize (look (rest bs p)).1 = n at *
      generalize (look (rest bs p)).2.1 = k at *
      have HF := Lib.hid hf
      clear hf he e
      go_enter Try.func31, Try.ntmps31
      go_wp2_with (go_at_call 47; refine HF.out.mono ?_; rintro e w1 ⟨rfl, hb⟩)
      go_ret2
      exact ⟨rfl, hR.below hb, Fr.of_below hb⟩
    · have e : readN (rest bs p) most = ((look (rest bs p)).1, 0, (look (rest bs p)).2.1) := by unfold readN; rw [if_pos he, if_neg hm]
      rw [e]
      generalize (look (rest bs p)).1 = n at *
      generalize (look (rest bs p)).2.1 = k at *
      have HF := Lib.hid hf
      have HR := Lib.hid hR
      have hm' : ¬ most < (n : Int) := hm
      clear hf he e hR hm
      go_enter Try.func31, Try.ntmps31
      go_wp2_with (go_at_call 47; refine HF.out.mono ?_; rintro e w1 ⟨rfl, hb⟩; have HR1 := Lib.hid (HR.out.below hb); have HB := Lib.hid hb; clear hb; have z1 := HR1.out.cells.2; have y1 := blk_frozen HR1.out.blk 1)
      go_ret2
      have h := HR1.out.move (q := p + k) (by omega)
      rw [show ((p + k : Nat) : Int) = (p : Int) + (k : Int) by omega] at h
      exact ⟨rfl, h, (Fr.of_below HB.out).set _ _ (fun _ => rfl)⟩
  · have e : readN (rest bs p) most = (0, (look (rest bs p)).2.2, 0) := by unfold readN; rw [if_neg he]
    rw [e]
    have hf := RefLook_any w g base v bs p hR
    generalize (look (rest bs p)).1 = n at *
    generalize (look (rest bs p)).2.1 = m at *
    generalize (look (rest bs p)).2.2 = k at *
    have hk : ((k : Int) != 0) = true := by simp; omega
    have HF := Lib.hid hf
    clear hf he e
    go_enter Try.func31, Try.ntmps31
    go_wp2_with (go_at_call 47; refine HF.out.mono ?_; rintro e w1 ⟨rfl, hb⟩)
    go_ret2
    exact ⟨rfl, hR.below hb, Fr.of_below hb⟩
theorem RefRSigned_any (w : World) (g base : Nat) (v : Value) (bs : List Int) (p : Nat) (least most : Int) (hR : RefIs w g base v bs p) :
    Calls Try.prog 32 #[.pointer (some ⟨g, 0, none⟩), .int .i64 least, .int .i64 most] w fun e w' => e = .returned (.tuple #[.int .i64 (readS (rest bs p) least most).1, .int .i64 (readS (rest bs p) least most).2.1]) ∧
      RefIs w' g base v bs (p + (readS (rest bs p) least most).2.2) ∧ Fr (fun i => i = g) w w' := by
  have hs := hR.small
  by_cases he : (look (rest bs p)).2.2 = 0
  · obtain ⟨hw1, hw2⟩ := look_wide bs p hR.le hR.bytes he
    have hf := RefLook_any w g base v bs p hR
    rw [he] at hf
    by_cases hm : zag (look (rest bs p)).1 < least ∨ most < zag (look (rest bs p)).1
    · have e : readS (rest bs p) least most = (0, 12, 0) := by unfold readS; rw [if_pos he, if_pos hm]
      rw [e]
      generalize (look (rest bs p)).1 = n at *
      generalize (look (rest bs p)).2.1 = k at *
      have HF := Lib.hid hf
      have HZ := Lib.hid (fun w => RefZag_any n hw2 w)
      clear hf he e
      generalize zag n = z at *
      by_cases h1 : z < least
      all_goals
       go_enter Try.func32, Try.ntmps32
       go_wp2_with (first | (go_at_call 47; refine HF.out.mono ?_; rintro e w1 ⟨rfl, hb⟩) | (go_at_call 20; refine (HZ.out _).mono ?_; rintro e w' ⟨rfl, rfl⟩))
       go_ret2
       exact ⟨rfl, hR.below hb, Fr.of_below hb⟩
    · have e : readS (rest bs p) least most = (zag (look (rest bs p)).1, 0, (look (rest bs p)).2.1) := by unfold readS; rw [if_pos he, if_neg hm]
      rw [e]
      generalize (look (rest bs p)).1 = n at *
      generalize (look (rest bs p)).2.1 = k at *
      have HF := Lib.hid hf
      have HR := Lib.hid hR
      have hm1 : ¬ zag n < least := fun h => hm (.inl h)
      have hm2 : ¬ most < zag n := fun h => hm (.inr h)
      have HZ := Lib.hid (fun w => RefZag_any n hw2 w)
      clear hf he e hR hm
      generalize zag n = z at *
      go_enter Try.func32, Try.ntmps32
      go_wp2_with (first | (go_at_call 47; refine HF.out.mono ?_; rintro e w1 ⟨rfl, hb⟩; have HR1 := Lib.hid (HR.out.below hb); have HB := Lib.hid hb; clear hb; have z1 := HR1.out.cells.2; have y1 := blk_frozen HR1.out.blk 1) | (go_at_call 20; refine (HZ.out _).mono ?_; rintro e w' ⟨rfl, rfl⟩))
      go_ret2
      have h := HR1.out.move (q := p + k) (by omega)
      rw [show ((p + k : Nat) : Int) = (p : Int) + (k : Int) by omega] at h
      exact ⟨rfl, h, (Fr.of_below HB.out).set _ _ (fun _ => rfl)⟩
  · have e : readS (rest bs p) least most = (0, (look (rest bs p)).2.2, 0) := by unfold readS; rw [if_neg he]
    rw [e]
    have hf := RefLook_any w g base v bs p hR
    generalize (look (rest bs p)).1 = n at *
    generalize (look (rest bs p)).2.1 = m at *
    generalize (look (rest bs p)).2.2 = k at *
    have hk : ((k : Int) != 0) = true := by simp; omega
    have HF := Lib.hid hf
    clear hf he e
    go_enter Try.func32, Try.ntmps32
    go_wp2_with (go_at_call 47; refine HF.out.mono ?_; rintro e w1 ⟨rfl, hb⟩)
    go_ret2
    exact ⟨rfl, hR.below hb, Fr.of_below hb⟩

theorem RefEnd_any (w : World) (g base : Nat) (v : Value) (bs : List Int) (p : Nat) (hR : RefIs w g base v bs p) :
    Calls Try.prog 38 #[.pointer (some ⟨g, 0, none⟩)] w fun e w' => e = .returned (.int .i64 (if p < bs.length then 13 else 0)) ∧ Below w.heap.size w w' := by
  obtain ⟨hc0, hc1⟩ := hR.cells
  have hs := hR.small
  obtain ⟨A, c, rfl⟩ := own_slice hR.own
  by_cases h : p < bs.length
  · rw [if_pos h]
    have h' : decide (p < bs.length) = true := decide_eq_true h
    have h2 : decide ((p : Int) < (bs.length : Int)) = true := by simp; omega
    go_enter Try.func38, Try.ntmps38
    go_wp2
    go_quiet (fail)
    go_wp2
    go_ret
    exact ⟨rfl, pw_below_drewN (Below.refl _ _) _⟩
  · rw [if_neg h]
    have h' : decide (p < bs.length) = false := decide_eq_false h
    have h2 : decide ((p : Int) < (bs.length : Int)) = false := by simp; omega
    go_enter Try.func38, Try.ntmps38
    go_wp2
    go_quiet (fail)
    go_wp2
    go_ret
    exact ⟨rfl, pw_below_drewN (Below.refl _ _) _⟩

set_option maxRecDepth 100000 in
set_option maxHeartbeats 2000000 in
theorem RefRaw_any (w : World) (g base : Nat) (v : Value) (bs : List Int) (p : Nat) (n : Int) (hR : RefIs w g base v bs p) (hsm : bs.length < 140737488355328) (h0 : -9223372036854775808 ≤ n) (h1 : n ≤ 9223372036854775807) :
    Calls Try.prog 36 #[.pointer (some ⟨g, 0, none⟩), .int .i64 n] w fun e w' => ∃ u, e = .returned (.tuple #[u, .int .i64 (readR bs p n).2.1]) ∧
      w'.ownsRow w.heap.size 5 1 u (readR bs p n).1.length (nums .u8 (readR bs p n).1) ∧ RefIs w' g base v bs (p + (readR bs p n).2.2) ∧ Fr (fun i => i = g) w w' := by
  have hc0 : w.cell? ⟨g, 0, none⟩ = some v := blk_cell hR.blk 0
  have hc1 : w.cell? ⟨g, 1, none⟩ = some (.int .i64 p) := blk_cell hR.blk 1
  have hs := hR.small
  have hp := hR.le
  obtain ⟨A, c, rfl⟩ := own_slice hR.own
  have hcap := (row_C hR.own).2.1
  by_cases hn : n < 0
  · have e : readR bs p n = ([], 2, 0) := by unfold readR; rw [if_pos hn]
    rw [e]
    have HR := Lib.hid hR
    clear hR e
    go_enter Try.func36, Try.ntmps36
    go_wp2
    go_ret2
    exact ⟨_, rfl, World.ownsRow_nil _ _ _ _, HR.out, Fr.refl _ _⟩
  · obtain ⟨k, rfl⟩ := Int.eq_ofNat_of_zero_le (show 0 ≤ n by omega)
    by_cases hlt : (bs.length : Int) - p < (k : Int)
    · have e : readR bs p k = ([], 10, 0) := by unfold readR; rw [if_neg hn, if_pos hlt]
      rw [e]
      have h' : decide ((bs.length : Int) - p < (k : Int)) = true := decide_eq_true hlt
      have HR := Lib.hid hR
      clear hR e
      go_enter Try.func36, Try.ntmps36
      go_wp2
      go_quiet (fail)
      go_wp2
      go_ret2
      exact ⟨_, rfl, World.ownsRow_nil _ _ _ _, HR.out.below (pw_below_drewN (Below.refl _ _) _), Fr.of_below (pw_below_drewN (Below.refl _ _) _)⟩
    · have e : readR bs p k = ((bs.take (p + k)).drop p, 0, k) := by unfold readR; rw [if_neg hn, if_neg hlt, Int.toNat_natCast]
      rw [e]
      have h' : decide ((bs.length : Int) - p < (k : Int)) = false := decide_eq_false hlt
      obtain ⟨q, hq⟩ : ∃ q, q = p + k := ⟨_, rfl⟩
      simp only [← hq]
      have hqs : IntKind.i64.wrap ((p : Int) + (k : Int)) = (q : Int) := by rw [IntKind.wrap_i64]; omega
      obtain ⟨A', hcut, hcc⟩ := cut_read A c p q bs (by omega) (by omega) hcap
      have HR := Lib.hid hR
      have HCC := Lib.hid hcc
      have HQ := Lib.hid hq
      clear hR e hcc hq
      go_enter Try.func36, Try.ntmps36
      go_wp2
      go_quiet (fail)
      go_wp2
      have HR1 := Lib.hid (HR.out.below (pw_below_drewN (Below.refl _ _) nq))
      have HF1 := Lib.hid (pw_below_drewN (Below.refl w.heap.size w) nq)
      have hsz : (w.drewN nq).heap.size = w.heap.size := by simp
      generalize w.drewN nq = w1 at *
      clear hc0 hc1
      have HSZ := Lib.hid hsz
      clear hsz
      have hc0 : w1.cell? ⟨g, 0, none⟩ = some (.slice A bs.length c) := blk_cell HR1.out.blk 0
      have hc1 : w1.cell? ⟨g, 1, none⟩ = some (.int .i64 p) := blk_cell HR1.out.blk 1
      have hCd := HCC.out w1.drew (Kd.C_below (row_C HR1.out.own).2.2 (below_drew (Below.refl _ _)))
      have hln : ((bs.take q).drop p).length = q - p := by have := HQ.out; rw [List.length_drop, List.length_take]; omega
      have hcl := Twin_any A' (c - p) ((bs.take q).drop p) w1.drew (hln ▸ hCd) (by rw [hln]; have := HQ.out; omega) (by rw [hln]; have := HQ.out; omega)
      rw [hln] at hcl
      have HCL := Lib.hid hcl
      have HLN := Lib.hid hln
      clear hcl hln hCd
      -- region 7: 17 operations: 0:move 1:nilCheck 2:fieldAddr 3:load 4:move 5:nilCheck 6:fieldAddr 7:load 8:move 9:nilCheck 10:fieldAddr 11:load 12:move 13:binOp 14:slice 15:call 16:assign
      -- region 5: 17 operations: 0:move 1:nilCheck 2:fieldAddr 3:load 4:move 5:nilCheck 6:fieldAddr 7:load 8:move 9:nilCheck 10:fieldAddr 11:load 12:move 13:binOp 14:slice 15:call 16:assign
      refine start_ (S := fun W' => W'.cell? ⟨g, 0, none⟩ = some (.slice A bs.length c) ∧ W'.cell? ⟨g, 1, none⟩ = some (.int .i64 p)) (ds := []) #[false, false, false, false, false, false, false, false, false, false, false, false, false, false, false, false, false] (by kernel_rfl) rfl rfl ⟨by go_simp, by go_simp⟩ (fun hHeld => ?_)
      refine pure_ (i := 0) (N := some 21) (v := ?_) (a' := ?_) #[true, false, false, false, false, false, false, false, false, false, false, false, false, false, false, false, false] rfl rfl (by kernel_rfl) (fun _ _ _ h => h) (Or.inl ⟨by rfl, ?_⟩) ?_ ?_
      rotate_left
      · intro w'
        go_simp
        with_reducible rfl
      rotate_left
      · simp only [Act.put, List.setIfInBounds_toArray, List.set_cons_zero, List.set_cons_succ]
        rfl
      refine pure_ (i := 1) (N := some 22) (v := ?_) (a' := ?_) #[true, true, false, false, false, false, false, false, false, false, false, false, false, false, false, false, false] rfl rfl (by kernel_rfl) (fun _ _ _ h => h) (Or.inl ⟨by rfl, ?_⟩) ?_ ?_
      rotate_left
      · intro w'
        go_simp
        with_reducible rfl
      rotate_left
      · simp only [Act.put, List.setIfInBounds_toArray, List.set_cons_zero, List.set_cons_succ]
        rfl
      refine pure_ (i := 2) (N := some 23) (v := ?_) (a' := ?_) #[true, true, true, false, false, false, false, false, false, false, false, false, false, false, false, false, false] rfl rfl (by kernel_rfl) (fun _ _ _ h => h) (Or.inl ⟨by rfl, ?_⟩) ?_ ?_
      rotate_left
      · intro w'
        go_simp
        with_reducible rfl
      rotate_left
      · simp only [Act.put, List.setIfInBounds_toArray, List.set_cons_zero, List.set_cons_succ]
        rfl
      refine pure_ (i := 4) (N := some 25) (v := ?_) (a' := ?_) #[true, true, true, false, true, false, false, false, false, false, false, false, false, false, false, false, false] rfl rfl (by kernel_rfl) (fun _ _ _ h => h) (Or.inl ⟨by rfl, ?_⟩) ?_ ?_
      rotate_left
      · intro w'
        go_simp
        with_reducible rfl
      rotate_left
      · simp only [Act.put, List.setIfInBounds_toArray, List.set_cons_zero, List.set_cons_succ]
        rfl
      refine pure_ (i := 5) (N := some 26) (v := ?_) (a' := ?_) #[true, true, true, false, true, true, false, false, false, false, false, false, false, false, false, false, false] rfl rfl (by kernel_rfl) (fun _ _ _ h => h) (Or.inl ⟨by rfl, ?_⟩) ?_ ?_
      rotate_left
      · intro w'
        go_simp
        with_reducible rfl
      rotate_left
      · simp only [Act.put, List.setIfInBounds_toArray, List.set_cons_zero, List.set_cons_succ]
        rfl
      refine pure_ (i := 6) (N := some 27) (v := ?_) (a' := ?_) #[true, true, true, false, true, true, true, false, false, false, false, false, false, false, false, false, false] rfl rfl (by kernel_rfl) (fun _ _ _ h => h) (Or.inl ⟨by rfl, ?_⟩) ?_ ?_
      rotate_left
      · intro w'
        go_simp
        with_reducible rfl
      rotate_left
      · simp only [Act.put, List.setIfInBounds_toArray, List.set_cons_zero, List.set_cons_succ]
        rfl
      refine pure_ (i := 8) (N := some 29) (v := ?_) (a' := ?_) #[true, true, true, false, true, true, true, false, true, false, false, false, false, false, false, false, false] rfl rfl (by kernel_rfl) (fun _ _ _ h => h) (Or.inl ⟨by rfl, ?_⟩) ?_ ?_
      rotate_left
      · intro w'
        go_simp
        with_reducible rfl
      rotate_left
      · simp only [Act.put, List.setIfInBounds_toArray, List.set_cons_zero, List.set_cons_succ]
        rfl
      refine pure_ (i := 9) (N := some 30) (v := ?_) (a' := ?_) #[true, true, true, false, true, true, true, false, true, true, false, false, false, false, false, false, false] rfl rfl (by kernel_rfl) (fun _ _ _ h => h) (Or.inl ⟨by rfl, ?_⟩) ?_ ?_
      rotate_left
      · intro w'
        go_simp
        with_reducible rfl
      rotate_left
      · simp only [Act.put, List.setIfInBounds_toArray, List.set_cons_zero, List.set_cons_succ]
        rfl
      refine pure_ (i := 10) (N := some 31) (v := ?_) (a' := ?_) #[true, true, true, false, true, true, true, false, true, true, true, false, false, false, false, false, false] rfl rfl (by kernel_rfl) (fun _ _ _ h => h) (Or.inl ⟨by rfl, ?_⟩) ?_ ?_
      rotate_left
      · intro w'
        go_simp
        with_reducible rfl
      rotate_left
      · simp only [Act.put, List.setIfInBounds_toArray, List.set_cons_zero, List.set_cons_succ]
        rfl
      refine pure_ (i := 12) (N := some 33) (v := ?_) (a' := ?_) #[true, true, true, false, true, true, true, false, true, true, true, false, true, false, false, false, false] rfl rfl (by kernel_rfl) (fun _ _ _ h => h) (Or.inl ⟨by rfl, ?_⟩) ?_ ?_
      rotate_left
      · intro w'
        go_simp
        with_reducible rfl
      rotate_left
      · simp only [Act.put, List.setIfInBounds_toArray, List.set_cons_zero, List.set_cons_succ]
        rfl
      refine take_ (i := 3) (N := some 24) (v := ?_) (a' := ?_) #[true, true, true, true, true, true, true, false, true, true, true, false, true, false, false, false, false] rfl rfl (by kernel_rfl) (fun _ _ _ h => h) (Or.inl ⟨by rfl, ?_⟩) hHeld ?_ ?_
      rotate_left
      · rintro w' ⟨h1, h2⟩
        go_simp
        with_reducible rfl
      rotate_left
      · simp only [Act.put, List.setIfInBounds_toArray, List.set_cons_zero, List.set_cons_succ]
        rfl
      refine take_ (i := 7) (N := some 28) (v := ?_) (a' := ?_) #[true, true, true, true, true, true, true, true, true, true, true, false, true, false, false, false, false] rfl rfl (by kernel_rfl) (fun _ _ _ h => h) (Or.inl ⟨by rfl, ?_⟩) hHeld ?_ ?_
      rotate_left
      · rintro w' ⟨h1, h2⟩
        go_simp
        with_reducible rfl
      rotate_left
      · simp only [Act.put, List.setIfInBounds_toArray, List.set_cons_zero, List.set_cons_succ]
        rfl
      refine take_ (i := 11) (N := some 32) (v := ?_) (a' := ?_) #[true, true, true, true, true, true, true, true, true, true, true, true, true, false, false, false, false] rfl rfl (by kernel_rfl) (fun _ _ _ h => h) (Or.inl ⟨by rfl, ?_⟩) hHeld ?_ ?_
      rotate_left
      · rintro w' ⟨h1, h2⟩
        go_simp
        with_reducible rfl
      rotate_left
      · simp only [Act.put, List.setIfInBounds_toArray, List.set_cons_zero, List.set_cons_succ]
        rfl
      refine pure_ (i := 13) (N := some 34) (v := ?_) (a' := ?_) #[true, true, true, true, true, true, true, true, true, true, true, true, true, true, false, false, false] rfl rfl (by kernel_rfl) (fun _ _ _ h => h) (Or.inl ⟨by rfl, ?_⟩) ?_ ?_
      rotate_left
      · intro w'
        go_simp
        with_reducible rfl
      rotate_left
      · simp only [Act.put, List.setIfInBounds_toArray, List.set_cons_zero, List.set_cons_succ]
        rfl
      refine pure_ (i := 14) (N := some 35) (v := ?_) (a' := ?_) #[true, true, true, true, true, true, true, true, true, true, true, true, true, true, true, false, false] rfl rfl (by kernel_rfl) (fun _ _ _ h => h) (Or.inl ⟨by rfl, ?_⟩) ?_ ?_
      rotate_left
      · intro w'
        go_simp
        with_reducible rfl
      rotate_left
      · simp only [Act.put, List.setIfInBounds_toArray, List.set_cons_zero, List.set_cons_succ]
        rfl
      refine one_ (i := 15) (N := some 36) #[true, true, true, true, true, true, true, true, true, true, true, true, true, true, true, true, false] rfl rfl (by kernel_rfl) (by decide) (fun K hK => ?_)
      refine goes_ Try.func15 (by kernel_rfl) rfl #[.slice A' (q - p) (c - p)] (by rfl) rfl rfl (by simp only [List.map_toArray, List.map_cons, List.map_nil]; rfl) ?_
      refine HCL.out.mono ?_
      rintro e w3 ⟨u, rfl, ho3, hb3⟩
      refine ⟨_, rfl, ?_⟩
      have HO3 := Lib.hid ho3
      have HB3 := Lib.hid hb3
      have z0 := pw_cell_below hb3 (by go_simp : w1.drew.cell? ⟨g, 0, none⟩ = some (.slice A bs.length c))
      have z1 := pw_cell_below hb3 (by go_simp : w1.drew.cell? ⟨g, 1, none⟩ = some (.int .i64 p))
      clear ho3 hb3
      refine hK.out _ _ ⟨z0, z1⟩ (fun hHeld => ?_)
      clear hK K
      refine norm_ (a' := ?_) ?_ ?_
      rotate_left
      · show Act.put _ (some 36) _ = _
        simp only [Act.put, List.setIfInBounds_toArray, List.set_cons_zero, List.set_cons_succ]
        rfl
      refine pure_ (i := 16) (N := some 6) (v := ?_) (a' := ?_) #[true, true, true, true, true, true, true, true, true, true, true, true, true, true, true, true, true] rfl rfl (by kernel_rfl) (fun _ _ _ h => h) (Or.inl ⟨by rfl, ?_⟩) ?_ ?_
      rotate_left
      · intro w'
        go_simp
        with_reducible rfl
      rotate_left
      · simp only [Act.put, List.setIfInBounds_toArray, List.set_cons_zero, List.set_cons_succ]
        rfl
      refine done_ (by kernel_rfl) ?_
      have hR3 := (HR1.out.below (below_drew (Below.refl _ _))).below HB3.out
      have hF3 : Fr (fun i => i = g) w w3 := Fr.of_below (HF1.out.trans (HSZ.out ▸ ((below_drew (Below.refl _ w1)).trans HB3.out)))
      have HF3 := Lib.hid hF3
      have HR3 := Lib.hid hR3
      have hgl : g < w.heap.size := blk_lt HR.out.blk
      have HGL := Lib.hid hgl
      clear hR3 hF3 z0 z1 hHeld hcut hgl
      have HGL2 := HGL.out
      obtain ⟨_, z1⟩ := HR3.out.cells
      have y1 := blk_frozen HR3.out.blk 1
      go_wp2
      go_ret2
      have hmv := HR3.out.move (q := q) (by have := HQ.out; omega)
      have ho := HO3.out
      rw [show w1.drew.heap.size = w.heap.size from HSZ.out] at ho
      have hF4 : Fr (fun i => i = g) w3 (w3.setCell ⟨g, 1, none⟩ (.int .i64 (q : Int))) := (Fr.refl _ _).set _ _ (fun _ => rfl)
      refine ⟨u, rfl, ?_, hmv, HF3.out.trans hF4 (fun _ _ h => h)⟩
      rw [HLN.out]
      refine own_fr ho hF4 (fun b hb e => ?_)
      have := (World.ownsRow.lt ho b hb).1
      omega

end Go.Proofs.Ytpiainanlmpieaa
