/- Contracts of the Tape: Number. -/
import Derived.Test.YtamagdnlicnefaaDoorVa
import Derived.Test.YtamagdnlicnefaaDoorRd
import Derived.Test.YtamagdnlicnefaaDoorRb
import Derived.Deep.AppendLies
namespace Go.Proofs.YtamagdnlicnefaaDoor
open Go.RowKit Go.Shelf Go.Proofs.YtamagdnlicnefaaDoorW.PrintWords Go.Proofs.YtamagdnlicnefaaDoorW.PrintLast Go.Proofs.YtamagdnlicnefaaDoorW.PrintMore
attribute [local go_sem] Oper.semAt_some

@[local go_sem] theorem wide_fn (f : Nat) : Fence.wide.fn f = True := rfl
@[local go_sem] theorem wide_depth : Fence.wide.depth.isSome = false := rfl

/-- The Tape at block g has the bytes xs; v is the slice that holds them. -/
structure TapeIs (W : World) (g base : Nat) (v : Value) (xs : List Int) : Prop where
  blk : W.heap[g]? = some (.cells #[v] 69 (0, 0))
  own : W.ownsRow base 5 1 v xs.length (nums .u8 xs)

theorem nums_one (x : Int) : nums .u8 [x] = [.int .u8 x] := rfl

theorem TapeIs.ne {W : World} {g base : Nat} {v : Value} {xs : List Int} (h : TapeIs W g base v xs) : v.ownBlock ≠ some g := fun e => own_ne h.own h.blk (by decide) e.symm

theorem info5 : (Tryd.prog.info? 5).map (fun i => (i.zero, i.size, i.bytes)) = some (some (.int .u8 0), 1, 1) := by kernel_rfl

/-- What one round leaves. -/
theorem TNumber_step {w w1 W w2 : World} {g base n d g2 cap : Nat} {v0 v : Value} {xs pre : List Int} {x : Int} (hg : g < w.heap.size) (hsz : w1.heap.size = w.heap.size + 1 + 1 + 1)
    (hT : TapeIs W g base v (xs ++ pre)) (hv : v.ownBlock = v0.ownBlock ∨ ∃ b, v.ownBlock = some b ∧ w.heap.size ≤ b)
    (b2 : Boxed W (w.heap.size + 1) 72 (.int .u64 n)) (b3 : Boxed W (w.heap.size + 1 + 1) 3 (.int .i64 ((d : Int) + 1)))
    (hF : Fr (fun i => i = g ∨ v0.ownBlock = some i) w W)
    (hown3 : w2.ownsRow base 5 1 (.slice (some ⟨g2, 0, none⟩) ((xs ++ pre).length + 1) cap) ((xs ++ pre).length + 1) (nums .u8 (xs ++ pre) ++ [.int .u8 x]))
    (hgrow : (W.alloc (.cells #[.int .u8 x] 5)).drew.grownBy w2 v.ownBlock) (hat : v.ownBlock = some g2 ∨ g2 = W.heap.size + 1)
    (e1 : Boxed w2 w.heap.size 70 (.pointer (some ⟨g, 0, none⟩))) (e2 : Boxed w2 (w.heap.size + 1) 72 (.int .u64 n)) (e3 : Boxed w2 (w.heap.size + 1 + 1) 3 (.int .i64 ((d : Int) + 1)))
    (e4 : w2.heap[g]? = some (.cells #[v] 69 (0, 0))) :
    KeepsFrom w1.heap.size W (w2.setCell ⟨g, 0, none⟩ (.slice (some ⟨g2, 0, none⟩) (xs.length + pre.length + 1) cap)) ∧
    KpB (w.heap.size + 1 + 1) (w.heap.size + 1) W (w2.setCell ⟨g, 0, none⟩ (.slice (some ⟨g2, 0, none⟩) (xs.length + pre.length + 1) cap)) ∧
    ∃ u, TapeIs (w2.setCell ⟨g, 0, none⟩ (.slice (some ⟨g2, 0, none⟩) (xs.length + pre.length + 1) cap)) g base u (xs ++ (pre ++ [x])) ∧ (u.ownBlock = v0.ownBlock ∨ ∃ b, u.ownBlock = some b ∧ w.heap.size ≤ b) ∧
      Boxed (w2.setCell ⟨g, 0, none⟩ (.slice (some ⟨g2, 0, none⟩) (xs.length + pre.length + 1) cap)) w.heap.size 70 (.pointer (some ⟨g, 0, none⟩)) ∧
      Boxed (w2.setCell ⟨g, 0, none⟩ (.slice (some ⟨g2, 0, none⟩) (xs.length + pre.length + 1) cap)) (w.heap.size + 1) 72 (.int .u64 n) ∧
      Boxed (w2.setCell ⟨g, 0, none⟩ (.slice (some ⟨g2, 0, none⟩) (xs.length + pre.length + 1) cap)) (w.heap.size + 1 + 1) 3 (.int .i64 ((d : Int) + 1)) ∧
      Fr (fun i => i = g ∨ v0.ownBlock = some i) w (w2.setCell ⟨g, 0, none⟩ (.slice (some ⟨g2, 0, none⟩) (xs.length + pre.length + 1) cap)) := by
  have hlen : (xs ++ pre).length = xs.length + pre.length := by simp
  rw [hlen] at hown3
  generalize hu : Value.slice (some ⟨g2, 0, none⟩) (xs.length + pre.length + 1) cap = u at *
  have hub : u.ownBlock = some g2 := by rw [← hu]; rfl
  have hA : Below W.heap.size W (W.alloc (.cells #[.int .u8 x] 5)).drew := below_drew ((Below.refl _ W).alloc (Nat.le_refl _) _)
  have hgne : some g ≠ u.ownBlock := own_ne hown3 e4 (by decide)
  have hF2 : Fr (fun i => i = g ∨ v0.ownBlock = some i) w w2 := by
    refine (hF.alloc _).drew.trans (Fr.grown (S := fun i => v.ownBlock = some i) hgrow (fun i _ e => e)) (fun i hi e => ?_)
    rcases hv with h | ⟨b, h, hb⟩
    · exact .inr (by rw [← h]; exact e)
    · rw [h] at e; cases e; omega
  refine ⟨⟨by have := hgrow.size; have := hA.size; simp; omega, fun k o hk ho hc => ?_⟩, ⟨?_, ?_⟩, u, ⟨?_, ?_⟩, ?_, ?_, ?_, ?_, ?_⟩
  · have hkl : k < W.heap.size := (Array.getElem?_eq_some_iff.1 ho).1
    rw [Below.heap_setCell _ _ _ _ (by simp; omega), hgrow.block k (by have := hA.size; omega) ?_, hA.block k hkl]
    · exact ho
    · intro e
      rcases hT.own.2 with ⟨rfl, _⟩ | ⟨g', c', cur, rfl, _, hgb, _⟩
      · simp [Value.ownBlock] at e
      · obtain rfl : k = g' := by simpa [Value.ownBlock] using e
        rw [hgb] at ho; cases ho; cases hc
  · exact (blk_far e3 (p := ⟨g, 0, none⟩) (by simp; omega) _).trans b3.symm
  · exact (blk_far e2 (p := ⟨g, 0, none⟩) (by simp; omega) _).trans b2.symm
  · have := blk_set e4 0 u; simpa using this
  · refine own_setCell ?_ (by exact hgne) _
    have e : (xs ++ (pre ++ [x])).length = xs.length + pre.length + 1 := by simp; omega
    rw [e, ← List.append_assoc, nums_append]
    exact hown3
  · rcases hat with h | h
    · rcases hv with h' | ⟨b, h', hb⟩
      · exact .inl (by rw [hub, ← h, h'])
      · exact .inr ⟨b, by rw [hub, ← h, h'], hb⟩
    · exact .inr ⟨g2, hub, by have := hF.size; omega⟩
  · exact blk_far e1 (p := ⟨g, 0, none⟩) (by simp; omega) _
  · exact blk_far e2 (p := ⟨g, 0, none⟩) (by simp; omega) _
  · exact blk_far e3 (p := ⟨g, 0, none⟩) (by simp; omega) _
  · exact hF2.set _ _ (fun _ => .inl rfl)

set_option maxRecDepth 100000 in
set_option maxHeartbeats 4000000 in
theorem TNumber_any (w : World) (g base n : Nat) (v0 : Value) (xs : List Int) (hn : n < 18446744073709551616) (hT : TapeIs w g base v0 xs) (hbase : base ≤ w.heap.size) (hlen : xs.length + 9 ≤ 140737488355328) :
    Calls Tryd.prog 28 #[.pointer (some ⟨g, 0, none⟩), .int .u64 n] w fun e w' => e = .returned (.pointer (some ⟨g, 0, none⟩)) ∧
      (∃ v, TapeIs w' g base v (xs ++ encI n) ∧ (v.ownBlock = v0.ownBlock ∨ ∃ b, v.ownBlock = some b ∧ w.heap.size ≤ b)) ∧ Fr (fun i => i = g ∨ v0.ownBlock = some i) w w' := by
  obtain ⟨i0, hi0, hz0, hz1, hz2⟩ := info_parts info5
  obtain ⟨d, hd⟩ : ∃ d, VP.wid n = d + 1 := ⟨VP.wid n - 1, by have := VP.wid_pos n; omega⟩
  have hglt : g < w.heap.size := blk_lt hT.blk
  refine (callsIn_wide (n := 9)).1 ?_
  refine callsIn_of_wp_marks Tryd.func28 rfl trivial ?_ rfl
  simp only [Tryd.ntmps28, List.size_toArray, List.length_cons, List.length_nil, Nat.reduceAdd, Nat.reduceSub, Array.replicate_succ, Array.replicate_zero, List.push_toArray, List.append_toArray, List.nil_append, List.cons_append]
  gi_wp2_with (gi_at_call 48; refine (callsIn_wide.2 (spelt_any n hn _)).mono ?_; rintro e w' ⟨rfl, rfl⟩)
  have hB1 := (((Below.refl w.heap.size w).alloc (Nat.le_refl _) (.cells #[.pointer (some ⟨g, 0, none⟩)] 70)).alloc (by simp) (.cells #[.int .u64 n] 72)).alloc (by simp; omega) (.cells #[.int .i64 ((d : Int) + 1)] 3)
  have hbt := (Boxed.new w 70 (.pointer (some ⟨g, 0, none⟩))).alloc (.cells #[.int .u64 n] 72) |>.alloc (.cells #[.int .i64 ((d : Int) + 1)] 3)
  have hbn := (Boxed.new (w.alloc (.cells #[.pointer (some ⟨g, 0, none⟩)] 70)) 72 (.int .u64 n)).alloc (.cells #[.int .i64 ((d : Int) + 1)] 3)
  have hbw := Boxed.new ((w.alloc (.cells #[.pointer (some ⟨g, 0, none⟩)] 70)).alloc (.cells #[.int .u64 n] 72)) 3 (.int .i64 ((d : Int) + 1))
  simp only [World.size_alloc] at hbn hbw
  generalize hw1 : ((w.alloc (.cells #[.pointer (some ⟨g, 0, none⟩)] 70)).alloc (.cells #[.int .u64 n] 72)).alloc (.cells #[.int .i64 ((d : Int) + 1)] 3) = w1 at *
  have hsz : w1.heap.size = w.heap.size + 1 + 1 + 1 := by rw [← hw1]; simp
  have hF1 : Fr (fun i => i = g ∨ v0.ownBlock = some i) w w1 := Fr.of_below hB1
  have hT1 : TapeIs w1 g base v0 (xs ++ []) := by rw [List.append_nil]; exact ⟨(hB1.block g hglt).trans hT.blk, pw_own_below hT.own hB1⟩
  clear hw1
  clear hB1
  refine wpIn_rangeFunc_ownG rfl (by omega) (gf := 68) (lb := #[.pointer (some ⟨w.heap.size + 1 + 1, 0, none⟩), .pointer (some ⟨w.heap.size + 1, 0, none⟩)]) rfl trivial (enters_of Tryd.func68 (by kernel_rfl) rfl)
    (encs := fun x : Int => #[Value.int .u8 x]) (Kp := KpB (w.heap.size + 1 + 1) (w.heap.size + 1)) (S := fun ys => ys = encI n) (Sp := fun _ => True) (N := 9) (w0 := w1)
    (fun l J Jx W hW hJ hJx hY h0 => spelt1_in 8 l _ _ n d hn hd J Jx hY W ((hW.block _ (by omega)).trans hbw) ((hW.block _ (by omega)).trans hbn) h0)
    (fun h k => ⟨k.1.trans h.1, k.2.trans h.2⟩) (fun W l o o' hl _ _ _ => ⟨World.putObj_heap_other (by omega), World.putObj_heap_other (by omega)⟩) (Below.refl _ _) (fun _ => rfl)
    (fun pre W => ∃ v, TapeIs W g base v (xs ++ pre) ∧ (v.ownBlock = v0.ownBlock ∨ ∃ b, v.ownBlock = some b ∧ w.heap.size ≤ b) ∧ Boxed W w.heap.size 70 (.pointer (some ⟨g, 0, none⟩)) ∧
      Boxed W (w.heap.size + 1) 72 (.int .u64 n) ∧ Boxed W (w.heap.size + 1 + 1) 3 (.int .i64 ((d : Int) + 1)) ∧ Fr (fun i => i = g ∨ v0.ownBlock = some i) w W)
    (fun _ _ _ => False) ?hI (fun _ _ _ _ _ hs _ _ => hs) ⟨v0, hT1, .inl rfl, hbt, hbn, hbw, hF1⟩
    (fun x => { tmps := #[.pointer (some ⟨g, 0, none⟩), .int .u64 n, .pointer (some ⟨w.heap.size, 0, none⟩), undef, .pointer none, .int .u8 x, .pointer (some ⟨g, 0, none⟩), .bool true, .int .u64 n, .func (.func 68) #[] #[.pointer (some ⟨w.heap.size + 1 + 1, 0, none⟩), .pointer (some ⟨w.heap.size + 1, 0, none⟩)], .int .u8 x, undef, undef, undef, undef, undef, undef, undef, undef, undef, undef, undef], defers := [] }) ?assign ?body ?done ?stop
  case hI =>
    rintro pre W W' row ⟨v, hT, hv, b1, b2, b3, hF⟩ hg hr
    have hne : ∀ i, i < w1.heap.size → some i ≠ row := fun i hi e => by have := (hr i e.symm).1; omega
    refine ⟨v, ⟨(hg.block g (blk_lt hT.blk) (hne g (by omega))).trans hT.blk, hT.own.kept hg ?_⟩, hv, b1.kept hg (hne _ (by omega)), b2.kept hg (hne _ (by omega)), b3.kept hg (hne _ (by omega)), hF.trans (Fr.grown (S := fun i => w1.heap.size ≤ i) hg (fun i _ e => (hr i e).1)) (fun i hi hle => by omega)⟩
    rcases hT.own.2 with ⟨rfl, _⟩ | ⟨g', cap, cur, rfl, _, hgb, _⟩
    · exact .inl rfl
    · refine .inr fun e' => ?_
      obtain ⟨_, o, ho, hc⟩ := hr g' (by simpa [Value.ownBlock] using e'.symm)
      rw [hgb] at ho; cases ho; cases hc
  case assign =>
    intro l x W K hK
    gi_wp2
    exact hK
  case body =>
    rintro l pre x W ⟨v, hT, hv, b1, b2, b3, hF⟩ hlt
    have hc1 := b1.cell
    have hc2 : W.cell? ⟨g, 0, none⟩ = some v := blk_cell hT.blk 0
    have hne := hT.ne
    have hA : Below W.heap.size W (W.alloc (.cells #[.int .u8 x] 5)).drew := below_drew ((Below.refl _ W).alloc (Nat.le_refl _) _)
    have hl : (xs ++ pre).length + 1 ≤ 140737488355328 := by simp; omega
    gi_wp2
    -- region 4: 11 operations: 0:load 1:load 2:nilCheck 3:fieldAddr 4:load 5:move 6:buildSlice 7:call 8:nilCheck 9:fieldAddr 10:store
    refine start_round (S := fun W' => W'.cell? ⟨w.heap.size, 0, none⟩ = some (.pointer (some ⟨g, 0, none⟩)) ∧ W'.cell? ⟨g, 0, none⟩ = some v) (ds := [10]) #[false, false, false, false, false, false, false, false, false, false, false] (by kernel_rfl) (by kernel_rfl) (fun ⟨_, _, h⟩ => h) rfl rfl ⟨hc1, hc2⟩ (fun hHeld => ?_)
    refine pure_ (i := 5) (N := some 16) (v := ?_) (a' := ?_) #[false, false, false, false, false, true, false, false, false, false, false] rfl rfl (by kernel_rfl) (fun _ _ _ h => h) (Or.inl ⟨by rfl, ?_⟩) ?_ ?_
    rotate_left
    · intro w'
      go_simp
      with_reducible rfl
    rotate_left
    · simp only [Act.put, List.setIfInBounds_toArray, List.set_cons_zero, List.set_cons_succ]
      rfl
    refine take_ (i := 0) (N := some 11) (v := ?_) (a' := ?_) #[true, false, false, false, false, true, false, false, false, false, false] rfl rfl (by kernel_rfl) (fun _ _ _ h => h) (Or.inl ⟨by rfl, ?_⟩) hHeld ?_ ?_
    rotate_left
    · rintro w' ⟨h1, h2⟩
      go_simp
      with_reducible rfl
    rotate_left
    · simp only [Act.put, List.setIfInBounds_toArray, List.set_cons_zero, List.set_cons_succ]
      rfl
    refine take_ (i := 1) (N := some 12) (v := ?_) (a' := ?_) #[true, true, false, false, false, true, false, false, false, false, false] rfl rfl (by kernel_rfl) (fun _ _ _ h => h) (Or.inl ⟨by rfl, ?_⟩) hHeld ?_ ?_
    rotate_left
    · rintro w' ⟨h1, h2⟩
      go_simp
      with_reducible rfl
    rotate_left
    · simp only [Act.put, List.setIfInBounds_toArray, List.set_cons_zero, List.set_cons_succ]
      rfl
    refine pure_ (i := 2) (N := some 13) (v := ?_) (a' := ?_) #[true, true, true, false, false, true, false, false, false, false, false] rfl rfl (by kernel_rfl) (fun _ _ _ h => h) (Or.inl ⟨by rfl, ?_⟩) ?_ ?_
    rotate_left
    · intro w'
      go_simp
      with_reducible rfl
    rotate_left
    · simp only [Act.put, List.setIfInBounds_toArray, List.set_cons_zero, List.set_cons_succ]
      rfl
    refine pure_ (i := 3) (N := some 14) (v := ?_) (a' := ?_) #[true, true, true, true, false, true, false, false, false, false, false] rfl rfl (by kernel_rfl) (fun _ _ _ h => h) (Or.inl ⟨by rfl, ?_⟩) ?_ ?_
    rotate_left
    · intro w'
      go_simp
      with_reducible rfl
    rotate_left
    · simp only [Act.put, List.setIfInBounds_toArray, List.set_cons_zero, List.set_cons_succ]
      rfl
    refine take_ (i := 4) (N := some 15) (v := ?_) (a' := ?_) #[true, true, true, true, true, true, false, false, false, false, false] rfl rfl (by kernel_rfl) (fun _ _ _ h => h) (Or.inl ⟨by rfl, ?_⟩) hHeld ?_ ?_
    rotate_left
    · rintro w' ⟨h1, h2⟩
      go_simp
      with_reducible rfl
    rotate_left
    · simp only [Act.put, List.setIfInBounds_toArray, List.set_cons_zero, List.set_cons_succ]
      rfl
    refine one_ (i := 6) (N := some 17) #[true, true, true, true, true, true, true, false, false, false, false] rfl rfl (by kernel_rfl) (by decide) (fun K hK => ?_)
    refine value_ (w1 := ?_) (v := ?_) (by rfl) rfl ?_ ?_
    rotate_left 2
    · go_simp
      constructor
      · rfl
      · rfl
    refine hK.out _ _ ⟨pw_cell_below hA hc1, pw_cell_below hA hc2⟩ (fun hHeld => ?_)
    clear hK K
    refine norm_ (a' := ?_) ?_ ?_
    rotate_left
    · show Act.put _ (some 17) _ = _
      simp only [Act.put, List.setIfInBounds_toArray, List.set_cons_zero, List.set_cons_succ]
      rfl
    refine one_ (i := 7) (N := some 18) #[true, true, true, true, true, true, true, true, false, false, false] rfl rfl (by kernel_rfl) (by decide) (fun K hK => ?_)
    refine step_append_lies _ (by rfl) (.tmp 15) (.tmp 17) 30 (by rfl) base 5 i0 (.int .u8 0) 1 1 Tryd.underlying30 hi0 hz0 hz1 hz2 rfl (by decide) v (xs ++ pre).length (nums .u8 (xs ++ pre)) (by rfl) (pw_own_below hT.own hA) ⟨W.heap.size, 0, none⟩ 1 1 [.int .u8 x] (by rfl) rfl (cell_one_new _ _ _) (by intro u hu; simp at hu; subst hu; rfl) (by omega) (by unfold maxLen; omega) (by omega) (Nat.le_trans hbase (Nat.le_trans hF.size hA.size)) (W.heap.size + 1) (by simp) ?_
    intro g2 cap w2 hown3 hgrow hat hlt2
    have e1 : Boxed w2 w.heap.size 70 (.pointer (some ⟨g, 0, none⟩)) := Boxed.kept (W := (W.alloc (.cells #[.int .u8 x] 5)).drew) (b1.alloc _) hgrow (own_ne hT.own b1 (by decide))
    have e2 : Boxed w2 (w.heap.size + 1) 72 (.int .u64 n) := Boxed.kept (W := (W.alloc (.cells #[.int .u8 x] 5)).drew) (b2.alloc _) hgrow (own_ne hT.own b2 (by decide))
    have e3 : Boxed w2 (w.heap.size + 1 + 1) 3 (.int .i64 ((d : Int) + 1)) := Boxed.kept (W := (W.alloc (.cells #[.int .u8 x] 5)).drew) (b3.alloc _) hgrow (own_ne hT.own b3 (by decide))
    have e4 : w2.heap[g]? = some (.cells #[v] 69 (0, 0)) := (hgrow.block g (by have := blk_lt hT.blk; simp; omega) (Ne.symm hne)).trans ((hA.block g (blk_lt hT.blk)).trans hT.blk)
    have hc3 := e1.cell
    have hc4 : w2.cell? ⟨g, 0, none⟩ = some v := blk_cell e4 0
    have hf4 : w2.frozen? ⟨g, 0, none⟩ = false := blk_frozen e4 0
    refine hK.out _ _ ⟨hc3, hc4⟩ (fun hHeld => ?_)
    clear hK K
    refine norm_ (a' := ?_) ?_ ?_
    rotate_left
    · show Act.put _ (some 18) _ = _
      simp only [Act.put, List.setIfInBounds_toArray, List.set_cons_zero, List.set_cons_succ]
      rfl
    refine pure_ (i := 8) (N := some 19) (v := ?_) (a' := ?_) #[true, true, true, true, true, true, true, true, true, false, false] rfl rfl (by kernel_rfl) (fun _ _ _ h => h) (Or.inl ⟨by rfl, ?_⟩) ?_ ?_
    rotate_left
    · intro w'
      go_simp
      with_reducible rfl
    rotate_left
    · simp only [Act.put, List.setIfInBounds_toArray, List.set_cons_zero, List.set_cons_succ]
      rfl
    refine pure_ (i := 9) (N := some 20) (v := ?_) (a' := ?_) #[true, true, true, true, true, true, true, true, true, true, false] rfl rfl (by kernel_rfl) (fun _ _ _ h => h) (Or.inl ⟨by rfl, ?_⟩) ?_ ?_
    rotate_left
    · intro w'
      go_simp
      with_reducible rfl
    rotate_left
    · simp only [Act.put, List.setIfInBounds_toArray, List.set_cons_zero, List.set_cons_succ]
      rfl
    refine last_ (i := 10) (N := none) #[true, true, true, true, true, true, true, true, true, true, true] rfl rfl (by kernel_rfl) (by decide) (fun K hK => ?_)
    refine skip_ (w1 := ?_) (by rfl) rfl ?_ ?_
    rotate_left 1
    · go_simp
      rfl
    refine hK.out _ _ ?_
    clear hK K
    refine done_ (by kernel_rfl) ?_
    exact TNumber_step hglt hsz hT hv b2 b3 hF hown3 hgrow hat e1 e2 e3 e4
  case done =>
    rintro D ys W hD rfl ⟨v, hT, hv, b1, b2, b3, hF⟩ hK
    have hc1 := b1.cell
    gi_wp2
    refine ⟨by simp, .inl ⟨_, _, rfl, run_takeDeferred hK, ?_⟩⟩
    refine ⟨_, results_tmp rfl _ _ _, rfl, ⟨v, ⟨(World.putObj_heap_other (by omega)).trans hT.blk, ownsRow_putObj hT.own _ hK rfl⟩, hv⟩, hF.trans (Fr.grown (S := fun i => i = D) (grownBy_putObj' W D _) (fun i _ e => by cases e; rfl)) (fun i hi e => ?_)⟩
    omega
  case stop =>
    rintro D c pre W _ _ h _
    exact h.elim
end Go.Proofs.YtamagdnlicnefaaDoor
