/- Contracts of the Reel: move, Number, Signed, At, End. -/
import Derived.Test.YtamagdnlicnefaaDoorVe
namespace Go.Proofs.YtamagdnlicnefaaDoor
open Go.RowKit Go.Shelf Go.Proofs.YtamagdnlicnefaaDoorW.PrintWords Go.Proofs.YtamagdnlicnefaaDoorW.PrintLast Go.Proofs.YtamagdnlicnefaaDoorW.PrintMore

theorem ReelIs.below {w w' : World} {g base p : Nat} {v : Value} {bs : List Int} (h : ReelIs w g base v bs p) (hb : Below w.heap.size w w') : ReelIs w' g base v bs p :=
  ⟨(hb.block g (blk_lt h.blk)).trans h.blk, pw_own_below h.own hb, h.le, h.small, h.bytes⟩

theorem ReelIs.ne {W : World} {g base p : Nat} {v : Value} {bs : List Int} (h : ReelIs W g base v bs p) : v.ownBlock ≠ some g := fun e => own_ne h.own h.blk (by decide) e.symm

theorem ReelIs.move {w : World} {g base p q : Nat} {v : Value} {bs : List Int} (h : ReelIs w g base v bs p) (hq : q ≤ bs.length) : ReelIs (w.setCell ⟨g, 1, none⟩ (.int .i64 q)) g base v bs q :=
  ⟨by have := blk_set h.blk 1 (.int .i64 q); simpa using this, own_setCell h.own (Ne.symm h.ne) _, hq, h.small, h.bytes⟩

theorem move_any (w : World) (g base : Nat) (v : Value) (bs : List Int) (p k : Nat) (hR : ReelIs w g base v bs p) (hk : p + k ≤ bs.length) :
    Calls Tryd.prog 72 #[.pointer (some ⟨g, 0, none⟩), .int .i64 k] w fun e w' => e = .returned (.tuple #[]) ∧ ReelIs w' g base v bs (p + k) ∧ Fr (fun i => i = g) w w' := by
  have hc1 : w.cell? ⟨g, 1, none⟩ = some (.int .i64 p) := blk_cell hR.blk 1
  have hf1 := blk_frozen hR.blk 1
  have hs := hR.small
  have hp : (p : Int) + (k : Int) ≤ 140737488355328 := by omega
  have HM := hR.move (q := p + k) hk
  go_enter Tryd.func72, Tryd.ntmps72
  go_wp2
  go_end0
  refine ⟨rfl, ?_, (Fr.refl _ _).set _ _ (fun _ => rfl)⟩
  exact HM

theorem fold_add : ∀ (l : List Nat) (a : Nat), VP.fold a l = a * 256 ^ l.length + VP.fold 0 l
  | [], a => by simp [VP.fold]
  | c :: l, a => by
    have e : ∀ a, VP.fold a (c :: l) = VP.fold (256 * a + c) l := fun _ => rfl
    rw [e a, e 0, fold_add l (256 * a + c), fold_add l (256 * 0 + c), List.length_cons, Nat.pow_succ]
    rw [Nat.add_mul, Nat.mul_zero, Nat.zero_add, Nat.mul_comm 256 a, Nat.mul_assoc, Nat.mul_comm 256]
    omega

theorem be_fold : ∀ (l : List Nat) (a : Nat), (∀ b ∈ l, b < 256) → VP.be l.length (VP.fold a l) = l
  | [], _, _ => rfl
  | c :: l, a, h => by
    have hc := h c (by simp)
    have hl : ∀ b ∈ l, b < 256 := fun b hb => h b (by simp [hb])
    have e : VP.fold a (c :: l) = VP.fold (256 * a + c) l := rfl
    rw [e, List.length_cons, VP.be, be_fold l _ hl, fold_add]
    have h0 := fold_lt l 0 hl
    rw [Nat.zero_add, Nat.one_mul] at h0
    rw [Nat.add_comm, Nat.add_mul_div_right _ _ (Nat.pow_pos (by omega)), Nat.div_eq_of_lt h0]
    congr 1
    omega

/-- What stands at the begin of bytes is a number, where there is no error: it, and its bytes. -/
theorem look_ok (l : List Nat) (hl : ∀ b ∈ l, b < 256) (h : (look l).2.2 = 0) :
    (look l).2.1 ≤ l.length ∧ (look l).1 < 18446744073709551616 ∧ VP.wid (look l).1 = (look l).2.1 ∧ l.take (look l).2.1 = VP.enc (look l).1 := by
  cases l with
  | nil => simp [look] at h
  | cons b t =>
    have hb := hl b (by simp)
    have ht : ∀ c ∈ t, c < 256 := fun c hc => hl c (by simp [hc])
    obtain ⟨k1, k2, k3, k4⟩ := VP.mark_lead b hb
    obtain ⟨L, hL⟩ : ∃ L, VP.lead b = L + 1 := ⟨VP.lead b - 1, by omega⟩
    rw [look_cons] at h ⊢
    rw [hL] at h k1 k2 k3 k4 ⊢
    by_cases h1 : t.length + 1 < L + 1
    · rw [if_pos h1] at h; simp at h
    · rw [if_neg h1] at h ⊢
      simp only [Nat.add_sub_cancel] at *
      by_cases h2 : VP.wid (VP.fold (b - VP.mark (L + 1)) (t.take L)) = L + 1
      · rw [if_pos h2]
        have hlen : (t.take L).length = L := by rw [List.length_take]; omega
        have hlt : ∀ c ∈ t.take L, c < 256 := fun c hc => ht c (List.mem_of_mem_take hc)
        have h7 : L < 8 → b - VP.mark (L + 1) < 2 ^ (7 - L) := by
          intro h8
          have h3 := k2 (by omega)
          have hc : L = 0 ∨ L = 1 ∨ L = 2 ∨ L = 3 ∨ L = 4 ∨ L = 5 ∨ L = 6 ∨ L = 7 := by omega
          clear h h1 h2 k2 k4 hlen hlt hL
          rcases hc with rfl | rfl | rfl | rfl | rfl | rfl | rfl | rfl <;> (simp only [VP.mark, Nat.reduceSub, Nat.reducePow, Nat.reduceAdd] at k1 h3 ⊢; omega)
        have h8 : L = 8 → b - VP.mark (L + 1) = 0 := by
          rintro rfl
          simp only [VP.mark, Nat.reduceSub, Nat.reducePow, Nat.reduceAdd] at k1 ⊢; omega
        have hs := (fold_small _ L L _ hlt hlen (Nat.le_refl _) (by omega) h7 h8).1
        refine ⟨by simp; omega, hs, h2, ?_⟩
        have hbe := be_fold (t.take L) (b - VP.mark (L + 1)) hlt
        rw [hlen] at hbe
        show List.take (L + 1) (b :: t) = VP.enc (VP.fold (b - VP.mark (L + 1)) (t.take L))
        unfold VP.enc VP.first
        rw [h2, Nat.add_sub_cancel, hbe, List.take_succ_cons]
        congr 1
        have h0 := fold_lt (t.take L) 0 hlt
        rw [Nat.zero_add, Nat.one_mul, hlen] at h0
        rw [fold_add, hlen, Nat.add_comm (_ * _), Nat.add_mul_div_right _ _ (Nat.pow_pos (by omega)), Nat.div_eq_of_lt h0]
        omega
      · rw [if_neg h2] at h; simp at h

/-- What a number's bytes begin is read as that number. -/
theorem look_enc (n : Nat) (hn : n < 18446744073709551616) (t : List Nat) : look (VP.enc n ++ t) = (n, VP.wid n, 0) := by
  have hw := VP.wid_pos n
  have h1 : VP.lead (VP.first n) = VP.wid n := VP.lead_first n hn
  have h2 := VP.fold_enc n hn
  have h3 := VP.be_length (VP.wid n - 1) n
  unfold VP.enc
  rw [List.cons_append, look_cons, h1, if_neg (by rw [List.length_append, h3]; omega)]
  have h4 : List.take (VP.wid n - 1) (VP.be (VP.wid n - 1) n ++ t) = VP.be (VP.wid n - 1) n := by
    rw [List.take_append_of_le_length (by omega), List.take_of_length_le (by omega)]
  rw [h4, h2, if_pos rfl]

/-- What Number answers of the bytes at the place: the number, the error, how far the place is moved. -/
def readN (l : List Nat) (most : Int) : Nat × Nat × Nat :=
  if (look l).2.2 = 0 then (if most < (look l).1 then (0, 12, 0) else ((look l).1, 0, (look l).2.1)) else (0, (look l).2.2, 0)

theorem look_wide (bs : List Int) (p : Nat) (hp : p ≤ bs.length) (hb : ∀ b ∈ bs, 0 ≤ b ∧ b ≤ 255) (h : (look (rest bs p)).2.2 = 0) : p + (look (rest bs p)).2.1 ≤ bs.length ∧ (look (rest bs p)).1 < 18446744073709551616 := by
  obtain ⟨h1, h2, _⟩ := look_ok _ (rest_lt bs hb p) h
  have : (rest bs p).length = bs.length - p := by simp [rest]
  exact ⟨by omega, h2⟩

set_option maxHeartbeats 1000000 in
theorem RNumber_any (w : World) (g base : Nat) (v : Value) (bs : List Int) (p : Nat) (most : Int) (hR : ReelIs w g base v bs p) :
    Calls Tryd.prog 33 #[.pointer (some ⟨g, 0, none⟩), .int .u64 most] w fun e w' => e = .returned (.tuple #[.int .u64 (readN (rest bs p) most).1, .int .i64 (readN (rest bs p) most).2.1]) ∧
      ReelIs w' g base v bs (p + (readN (rest bs p) most).2.2) ∧ Fr (fun i => i = g) w w' := by
  by_cases he : (look (rest bs p)).2.2 = 0
  · obtain ⟨hw1, hw2⟩ := look_wide bs p hR.le hR.bytes he
    have hf := find_any w g base v bs p hR
    have ef : foundV g (look (rest bs p)) = .agg #[.int .u64 (look (rest bs p)).1, .int .i64 (look (rest bs p)).2.1, .func (.func 72) #[.pointer (some ⟨g, 0, none⟩)] #[]] := by unfold foundV; rw [if_pos he]
    rw [ef, he] at hf
    by_cases hm : most < (look (rest bs p)).1
    · have e : readN (rest bs p) most = (0, 12, 0) := by unfold readN; rw [if_pos he, if_pos hm]
      rw [e]
      generalize (look (rest bs p)).1 = n at *
      generalize (look (rest bs p)).2.1 = k at *
      have HF := Lib.hid hf
      clear hf he e ef
      go_enter Tryd.func33, Tryd.ntmps33
      go_wp2_with (go_at_call 52; refine HF.out.mono ?_; rintro e w1 ⟨rfl, hb⟩)
      go_ret2
      have hb2 := hb.trans ((below_alloc (Below.refl _ w1) (.cells #[.int .u64 n, .int .i64 k, .func (.func 72) #[.pointer (some ⟨g, 0, none⟩)] #[]] 107)).mono hb.size)
      exact ⟨rfl, hR.below hb2, Fr.of_below hb2⟩
    · have e : readN (rest bs p) most = ((look (rest bs p)).1, 0, (look (rest bs p)).2.1) := by unfold readN; rw [if_pos he, if_neg hm]
      rw [e]
      generalize (look (rest bs p)).1 = n at *
      generalize (look (rest bs p)).2.1 = k at *
      have HF := Lib.hid hf
      clear hf he e ef
      go_enter Tryd.func33, Tryd.ntmps33
      go_wp2_with (go_at_call 52; refine HF.out.mono ?_; rintro e w1 ⟨rfl, hb⟩)
      have hb2 := hb.trans ((below_alloc (Below.refl _ w1) (.cells #[.int .u64 n, .int .i64 k, .func (.func 72) #[.pointer (some ⟨g, 0, none⟩)] #[]] 107)).mono hb.size)
      have hR2 := hR.below hb2
      have hX := World.alloc_heap_new w1 (.cells #[.int .u64 n, .int .i64 k, .func (.func 72) #[.pointer (some ⟨g, 0, none⟩)] #[]] 107)
      have hgl : g < w1.heap.size := by have := blk_lt hR.blk; have := hb.size; omega
      refine (move_any _ g base v bs p k hR2 (by omega)).mono ?_
      rintro e w3 ⟨rfl, hR3, hF3⟩
      have hX3 := (hF3.block w1.heap.size (by simp) (by omega)).trans hX
      have x0 := blk_cell hX3 0
      simp only [List.getElem?_toArray, List.getElem?_cons_zero] at x0
      go_wp2
      go_ret2
      exact ⟨rfl, hR3, (Fr.of_below hb2 : Fr (fun i => i = g) w _).trans hF3 (fun _ _ h => h)⟩
  · have e : readN (rest bs p) most = (0, (look (rest bs p)).2.2, 0) := by unfold readN; rw [if_neg he]
    rw [e]
    have hf := find_any w g base v bs p hR
    have ef : foundV g (look (rest bs p)) = .agg #[.int .u64 0, .int .i64 0, .nilFunc] := by unfold foundV; rw [if_neg he]
    rw [ef] at hf
    generalize (look (rest bs p)).2.2 = k at *
    have hk : ((k : Int) != 0) = true := by simp; omega
    have HF := Lib.hid hf
    clear hf he e ef
    go_enter Tryd.func33, Tryd.ntmps33
    go_wp2_with (go_at_call 52; refine HF.out.mono ?_; rintro e w1 ⟨rfl, hb⟩)
    go_ret2
    have hb2 := hb.trans ((below_alloc (Below.refl _ w1) (.cells #[.int .u64 0, .int .i64 0, .nilFunc] 107)).mono hb.size)
    exact ⟨rfl, hR.below hb2, Fr.of_below hb2⟩

/-- What Signed answers. -/
def readS (l : List Nat) (least most : Int) : Int × Nat × Nat :=
  if (look l).2.2 = 0 then (if zag (look l).1 < least ∨ most < zag (look l).1 then (0, 12, 0) else (zag (look l).1, 0, (look l).2.1)) else (0, (look l).2.2, 0)

set_option maxHeartbeats 1000000 in
theorem RSigned_any (w : World) (g base : Nat) (v : Value) (bs : List Int) (p : Nat) (least most : Int) (hR : ReelIs w g base v bs p) :
    Calls Tryd.prog 53 #[.pointer (some ⟨g, 0, none⟩), .int .i64 least, .int .i64 most] w fun e w' => e = .returned (.tuple #[.int .i64 (readS (rest bs p) least most).1, .int .i64 (readS (rest bs p) least most).2.1]) ∧
      ReelIs w' g base v bs (p + (readS (rest bs p) least most).2.2) ∧ Fr (fun i => i = g) w w' := by
  by_cases he : (look (rest bs p)).2.2 = 0
  · obtain ⟨hw1, hw2⟩ := look_wide bs p hR.le hR.bytes he
    have hf := find_any w g base v bs p hR
    have ef : foundV g (look (rest bs p)) = .agg #[.int .u64 (look (rest bs p)).1, .int .i64 (look (rest bs p)).2.1, .func (.func 72) #[.pointer (some ⟨g, 0, none⟩)] #[]] := by unfold foundV; rw [if_pos he]
    rw [ef, he] at hf
    by_cases hm : zag (look (rest bs p)).1 < least ∨ most < zag (look (rest bs p)).1
    · have e : readS (rest bs p) least most = (0, 12, 0) := by unfold readS; rw [if_pos he, if_pos hm]
      rw [e]
      generalize (look (rest bs p)).1 = n at *
      generalize (look (rest bs p)).2.1 = k at *
      have HF := Lib.hid hf
      have HZ := Lib.hid (fun w => Zag_any n hw2 w)
      clear hf he e ef
      generalize zag n = z at *
      by_cases h1 : z < least
      all_goals
        go_enter Tryd.func53, Tryd.ntmps53
        go_wp2_with (first | (go_at_call 52; refine HF.out.mono ?_; rintro e w1 ⟨rfl, hb⟩) | (go_at_call 73; refine (HZ.out _).mono ?_; rintro e w' ⟨rfl, rfl⟩))
        go_ret2
        have hb2 := hb.trans ((below_alloc (Below.refl _ w1) (.cells #[.int .u64 n, .int .i64 k, .func (.func 72) #[.pointer (some ⟨g, 0, none⟩)] #[]] 107)).mono hb.size)
        exact ⟨rfl, hR.below hb2, Fr.of_below hb2⟩
    · have e : readS (rest bs p) least most = (zag (look (rest bs p)).1, 0, (look (rest bs p)).2.1) := by unfold readS; rw [if_pos he, if_neg hm]
      rw [e]
      have hm1 : ¬ zag (look (rest bs p)).1 < least := fun h => hm (.inl h)
      have hm2 : ¬ most < zag (look (rest bs p)).1 := fun h => hm (.inr h)
      generalize (look (rest bs p)).1 = n at *
      generalize (look (rest bs p)).2.1 = k at *
      have HF := Lib.hid hf
      have HZ := Lib.hid (fun w => Zag_any n hw2 w)
      clear hf he e ef hm
      generalize zag n = z at *
      go_enter Tryd.func53, Tryd.ntmps53
      go_wp2_with (first | (go_at_call 52; refine HF.out.mono ?_; rintro e w1 ⟨rfl, hb⟩) | (go_at_call 73; refine (HZ.out _).mono ?_; rintro e w' ⟨rfl, rfl⟩))
      have hb2 := hb.trans ((below_alloc (Below.refl _ w1) (.cells #[.int .u64 n, .int .i64 k, .func (.func 72) #[.pointer (some ⟨g, 0, none⟩)] #[]] 107)).mono hb.size)
      have hR2 := hR.below hb2
      have hX := World.alloc_heap_new w1 (.cells #[.int .u64 n, .int .i64 k, .func (.func 72) #[.pointer (some ⟨g, 0, none⟩)] #[]] 107)
      have hgl : g < w1.heap.size := by have := blk_lt hR.blk; have := hb.size; omega
      refine (move_any _ g base v bs p k hR2 (by omega)).mono ?_
      rintro e w3 ⟨rfl, hR3, hF3⟩
      have hX3 := (hF3.block w1.heap.size (by simp) (by omega)).trans hX
      have x0 := blk_cell hX3 0
      simp only [List.getElem?_toArray, List.getElem?_cons_zero] at x0
      go_wp2
      go_ret2
      exact ⟨rfl, hR3, (Fr.of_below hb2 : Fr (fun i => i = g) w _).trans hF3 (fun _ _ h => h)⟩
  · have e : readS (rest bs p) least most = (0, (look (rest bs p)).2.2, 0) := by unfold readS; rw [if_neg he]
    rw [e]
    have hf := find_any w g base v bs p hR
    have ef : foundV g (look (rest bs p)) = .agg #[.int .u64 0, .int .i64 0, .nilFunc] := by unfold foundV; rw [if_neg he]
    rw [ef] at hf
    generalize (look (rest bs p)).2.2 = k at *
    have hk : ((k : Int) != 0) = true := by simp; omega
    have HF := Lib.hid hf
    have HZ := Lib.hid (fun w => Zag_any 0 (by omega) w)
    clear hf he e ef
    go_enter Tryd.func53, Tryd.ntmps53
    go_wp2_with (first | (go_at_call 52; refine HF.out.mono ?_; rintro e w1 ⟨rfl, hb⟩) | (go_at_call 73; refine (HZ.out _).mono ?_; rintro e w' ⟨rfl, rfl⟩))
    go_ret2
    have hb2 := hb.trans ((below_alloc (Below.refl _ w1) (.cells #[.int .u64 0, .int .i64 0, .nilFunc] 107)).mono hb.size)
    exact ⟨rfl, hR.below hb2, Fr.of_below hb2⟩

theorem At_any (w : World) (g base : Nat) (v : Value) (bs : List Int) (p : Nat) (hR : ReelIs w g base v bs p) :
    Calls Tryd.prog 17 #[.pointer (some ⟨g, 0, none⟩)] w fun e w' => e = .returned (.int .i64 p) ∧ w = w' := by
  have hc1 : w.cell? ⟨g, 1, none⟩ = some (.int .i64 p) := blk_cell hR.blk 1
  go_enter Tryd.func17, Tryd.ntmps17
  go_wp2
  go_ret
  exact ⟨rfl, rfl⟩

theorem Clone_any (A : Option Addr) (c : Nat) (bs : List Int) (w : World) (hbs : (Kd.int .u8).C w A bs.length bs) (hl : bs.length ≤ 140737488355328) :
    Calls Tryd.prog 32 #[.slice A bs.length c] w fun e w' => ∃ v, e = .returned v ∧ w'.ownsRow w.heap.size 5 1 v bs.length (nums .u8 bs) ∧ Below w.heap.size w w' := by
  cases A with
  | none =>
    have h0 : bs.length = 0 := by
      rcases Nat.eq_zero_or_pos bs.length with h | h
      · exact h
      · obtain ⟨_, e, _⟩ := hbs.2.2 h; cases e
    obtain rfl : bs = [] := List.eq_nil_of_length_eq_zero h0
    refine (Tryd.bytes_Clone_nil _ _ _).mono ?_
    rintro e w' ⟨rfl, rfl⟩
    exact ⟨_, rfl, World.ownsRow_nil _ _ _ _, Below.refl _ _⟩
  | some a =>
    refine (Tryd.bytes_Clone_at a bs.length c bs w rfl hl (fun i hi => ?_)).mono ?_
    · obtain ⟨ad, e, h⟩ := Kd.at_int hbs i (by omega) (by omega)
      cases e
      simpa [rd] using h
    · rintro e w' ⟨v, rfl, h1, _, h2⟩
      exact ⟨v, rfl, h1, h2⟩

theorem On_any (A : Option Addr) (c : Nat) (bs : List Int) (w : World) (hbs : (Kd.int .u8).C w A bs.length bs) (hl : bs.length ≤ 140737488355328) (hb : ∀ b ∈ bs, 0 ≤ b ∧ b ≤ 255) :
    Calls Tryd.prog 14 #[.slice A bs.length c] w fun e w' => ∃ g v, e = .returned (.pointer (some ⟨g, 0, none⟩)) ∧ w.heap.size ≤ g ∧ ReelIs w' g w.heap.size v bs 0 ∧ Below w.heap.size w w' := by
  have HC := Lib.hid (Clone_any A c bs w hbs hl)
  clear hbs
  go_enter Tryd.func14, Tryd.ntmps14
  go_wp2_with fail
  refine HC.out.mono ?_
  rintro e w1 ⟨v, rfl, ho, hb1⟩
  obtain ⟨A1, c1, rfl⟩ := own_slice ho
  go_wp2
  go_ret
  refine ⟨_, _, rfl, hb1.size, ⟨World.alloc_heap_new _ _, pw_own_below ho (below_alloc (Below.refl _ _) _), Nat.zero_le _, hl, hb⟩, hb1.trans ((below_alloc (Below.refl _ _) _).mono hb1.size)⟩
end Go.Proofs.YtamagdnlicnefaaDoor
