/- OpcodeNames: Decode on none; what is told of closed instructions, texts and bytes. -/
import Derived.Test.YtamagdnlicnefaaGreatDoorKnOi
import Derived.Test.YtamagdnlicnefaaGreatDoorKnXb
namespace Go.Proofs.YtamagdnlicnefaaGreatDoor
open Go.RowKit Go.Shelf Go.Proofs.YtamagdnlicnefaaGreatDoorW.PrintWords Go.Proofs.YtamagdnlicnefaaGreatDoorW.PrintLast Go.Proofs.YtamagdnlicnefaaGreatDoorW.PrintMore
attribute [local go_sem] Oper.semAt_some wide_fn2 wide_depth2

theorem find_nil (w : World) : Calls Tryz.prog 75 #[.pointer none] w fun e w' => e = .returned (.tuple #[.agg #[.int .u64 0, .int .i64 0, .nilFunc], .int .i64 1]) ∧ Below w.heap.size w w' := by
  go_enter Tryz.func75, Tryz.ntmps75
  go_wp2
  exact bodyPost_ret (v := .tuple #[.agg #[.int .u64 0, .int .i64 0, .nilFunc], .int .i64 1]) (by simp [results, Tryz.results75, go_sem]) rfl ⟨rfl, (Below.refl _ _).alloc (Nat.le_refl _) _⟩
theorem RNumber_nil (most : Int) (w : World) : Calls Tryz.prog 53 #[.pointer none, .int .u64 most] w fun e w' => e = .returned (.tuple #[.int .u64 0, .int .i64 1]) ∧ Below w.heap.size w w' := by
  go_enter Tryz.func53, Tryz.ntmps53
  go_wp2_with (go_at_call 75; refine (find_nil _).mono ?_; rintro e w1 ⟨rfl, hb⟩)
  go_ret2
  exact ⟨rfl, hb.trans ((below_alloc (Below.refl _ w1) _).mono hb.size)⟩
set_option maxRecDepth 100000 in
set_option maxHeartbeats 4000000 in
theorem Decode_nil (w : World) : Calls Tryz.prog 30 #[.pointer none] w fun e w' => e = .returned (.tuple #[.agg #[.int .i64 0, .int .i64 0, .int .i64 0], .int .i64 1]) ∧ Below w.heap.size w w' := by
  refine (callsIn_wide (n := 9)).1 ?_
  refine callsIn_of_wp_marks Tryz.func30 rfl trivial ?_ rfl
  simp only [Tryz.ntmps30, List.size_toArray, List.length_cons, List.length_nil, Nat.reduceAdd, Nat.reduceSub, Array.replicate_succ, Array.replicate_zero, List.push_toArray, List.append_toArray, List.nil_append, List.cons_append]
  gi_wp2_with fail
  refine wpIn_scope_straight ?_
  have hB0 := below_alloc (below_alloc (Below.refl w.heap.size w) (.cells #[.pointer none] 54)) (.cells #[.int .i64 0, .int .i64 0, .int .i64 0] 23)
  have hx2 := World.alloc_heap_new (w.alloc (.cells #[.pointer none] 54)) (.cells #[.int .i64 0, .int .i64 0, .int .i64 0] 23)
  rw [World.size_alloc] at hx2
  have HB0 := Lib.hid hB0
  have HX2 := Lib.hid hx2
  clear hB0 hx2
  gi_wp2_with fail
  refine (callsIn_wide.2 (RNumber_nil 29 _)).mono ?_
  rintro e w1 ⟨rfl, hF1⟩
  have hx1 := (hF1.block _ (blk_lt HX2.out)).trans HX2.out
  have hl1 : Below w.heap.size w w1 := below_step HB0.out hF1
  have hs1 : w.heap.size + 1 < w1.heap.size := blk_lt hx1
  have HX1 := Lib.hid hx1
  have HL1 := Lib.hid hl1
  clear hF1 hx1 hl1 HX2 HB0
  gi_wp2_with fail
  have hw2 := below_alloc (below_alloc (Below.refl w1.heap.size w1) (.cells #[.int .i64 1] 28)) (.cells #[.int .i64 0, .int .i64 0, .int .i64 0] 23)
  have he2 : ((w1.alloc (.cells #[.int .i64 1] 28)).alloc (.cells #[.int .i64 0, .int .i64 0, .int .i64 0] 23)).heap[w1.heap.size]? = some (.cells #[.int .i64 1] 28 (0, 0)) := (Below.heap_alloc _ _ _ (by simp)).trans (World.alloc_heap_new w1 _)
  have hx2 := (hw2.block _ hs1).trans HX1.out
  have hl2 : Below w.heap.size w _ := below_step HL1.out hw2
  generalize (w1.alloc (.cells #[.int .i64 1] 28)).alloc (.cells #[.int .i64 0, .int .i64 0, .int .i64 0] 23) = w2 at *
  have y0 := blk_cell hx2 0
  have y1 := blk_cell hx2 1
  have y2 := blk_cell hx2 2
  have f0 := blk_frozen hx2 0
  have f1 := blk_frozen hx2 1
  have f2 := blk_frozen hx2 2
  have ye := blk_cell he2 0
  simp only [List.getElem?_toArray, List.getElem?_cons_zero, List.getElem?_cons_succ] at y0 y1 y2 ye
  have hge : w.heap.size + 1 ≠ w1.heap.size := by omega
  have HX2 := Lib.hid hx2
  have HL2 := Lib.hid hl2
  clear hx2 hl2 hw2 he2
  gi_region
  obtain ⟨z1, _⟩ := set3 (u0 := .int .i64 0) (u1 := .int .i64 0) (u2 := .int .i64 0) HX2.out
  have z4 : Below w.heap.size w _ := ((HL2.out.setCell (p := ⟨w.heap.size + 1, 0, none⟩) (Nat.le_succ _) (.int .i64 0)).setCell (p := ⟨w.heap.size + 1, 1, none⟩) (Nat.le_succ _) (.int .i64 0)).setCell (p := ⟨w.heap.size + 1, 2, none⟩) (Nat.le_succ _) (.int .i64 0)
  generalize ((w2.setCell ⟨w.heap.size + 1, 0, none⟩ (.int .i64 0)).setCell ⟨w.heap.size + 1, 1, none⟩ (.int .i64 0)).setCell ⟨w.heap.size + 1, 2, none⟩ (.int .i64 0) = w3 at *
  have Z1 := Lib.hid (show w3.drew.heap[w.heap.size + 1]? = _ from z1)
  have Z4 := Lib.hid z4.drew
  clear z1 z4 y0 y1 y2 f0 f1 f2 ye
  gi_wp2
  rw [Exit.noGoto_ret]
  refine ⟨_, results_ct rfl _ _ _ (w.heap.size + 1) _ rfl (run_loadVar_row _ _ 23 23 _ (0, 0) _ Z1.out Tryz.underlying23 rfl (by kernel_rfl)), ?_⟩
  exact ⟨rfl, Z4.out⟩
theorem dec30 (W : World) (g base : Nat) (v : Value) (bs : List Int) (o2 a2 b2 : Int) (c2 k2 : Nat) (hR : ReelIs W g base v bs 0) (he : decR (rest bs 0) = ((o2, a2, b2), c2, k2)) (B : Nat) (hB : B ≤ W.heap.size) (hg : B ≤ g) :
    Calls Tryz.prog 30 #[.pointer (some ⟨g, 0, none⟩)] W fun e w' => e = .returned (.tuple #[.agg #[.int .i64 o2, .int .i64 a2, .int .i64 b2], .int .i64 c2]) ∧ Below B W w' := by
  have h := Decode15_any g base v bs 0 W hR
  rw [he] at h
  refine h.mono ?_
  rintro e w' ⟨rfl, _, h2⟩
  exact ⟨rfl, h2.below hB (fun i hi e => by omega)⟩
theorem on31k (bs : List Int) (n : Nat) (W : World) (A : Option Addr) (c : Nat) (hC : W.ownsRow W.heap.size 5 1 (.slice A n c) bs.length (nums .u8 bs) ∨ (Kd.int .u8).C W A bs.length bs) (hl : bs.length ≤ 1000) (hb : ∀ b ∈ bs, 0 ≤ b ∧ b ≤ 255) (hn : bs.length = n) :
    Calls Tryz.prog 31 #[.slice A n c] W fun e w' => ∃ g v, e = .returned (.pointer (some ⟨g, 0, none⟩)) ∧ W.heap.size ≤ g ∧ ReelIs w' g W.heap.size v bs 0 ∧ Below W.heap.size W w' := by
  subst hn
  refine On_any A c bs W ?_ (by omega) hb
  rcases hC with h | h
  · exact (row_C h).2.2
  · exact h
theorem lit8 (W : World) (bs : List Int) (hl : bs.length ≤ 1000) : (Kd.int .u8).C (W.alloc (.cells (bs.map (Value.int .u8)).toArray 5)) (some ⟨W.heap.size, 0, none⟩) bs.length bs := by
  have ho : (W.alloc (.cells (bs.map (Value.int .u8)).toArray 5)).ownsRow W.heap.size 5 1 (.slice (some ⟨W.heap.size, 0, none⟩) bs.length bs.length) bs.length (nums .u8 bs) := by
    refine ⟨by simp [nums], .inr ⟨W.heap.size, bs.length, _, rfl, Nat.le_refl _, World.alloc_heap_new _ _, Nat.le_refl _, by unfold maxLen; omega, by simp, by show List.take _ _ = _; rw [List.take_of_length_le (by simp)]; rfl⟩⟩
  exact (row_C ho).2.2
def badI : List (Int × Int × Int) := [(-1, 0, 0), (30, 0, 0), (0, 1, 0), (0, 0, 1), (1, 0, 1), (2, 0, 0), (2, 5, 0), (3, 64, 0), (3, -1, 0), (8, 64, 0), (9, 16, 1), (9, 0, 0), (9, 0, 4), (11, 64, 0), (15, 14, 0), (16, 9, 0), (17, 0, 0), (18, 512, 0), (20, -1, 0), (24, 1, 0)]
def goodI : List (Int × Int × Int) := [(1, -9223372036854775808, 0), (1, 9223372036854775807, 0), (2, 4, 0), (3, 63, 0), (8, 63, 0), (10, 15, 3), (11, 63, 0), (15, 13, 0), (16, 8, 0), (18, 511, 0)]
theorem bad_ok : ∀ j : Fin 20, okB (badI.getD j.val (0, 0, 0)).1 (badI.getD j.val (0, 0, 0)).2.1 (badI.getD j.val (0, 0, 0)).2.2 = false := by decide +kernel
theorem good_ok : ∀ j : Fin 10, okB (goodI.getD j.val (0, 0, 0)).1 (goodI.getD j.val (0, 0, 0)).2.1 (goodI.getD j.val (0, 0, 0)).2.2 = true ∧ (strOfNums (bytesW (goodI.getD j.val (0, 0, 0)).1 (goodI.getD j.val (0, 0, 0)).2.1 (goodI.getD j.val (0, 0, 0)).2.2)).toList.isEmpty = false := by decide +kernel
def noneT : List ByteArray := [⟨#[]⟩, ⟨#[105, 110, 116]⟩, ⟨#[105, 110, 116, 32, 53, 32, 53]⟩, ⟨#[105, 110, 116, 32, 48, 53]⟩, ⟨#[105, 110, 116, 32, 32, 53]⟩, ⟨#[32, 105, 110, 116, 32, 53]⟩, ⟨#[105, 110, 116, 32, 43, 53]⟩, ⟨#[103, 101, 116, 32, 50]⟩, ⟨#[103, 101, 116, 32, 50, 32, 80]⟩, ⟨#[98, 105, 110, 32, 102, 111, 111]⟩, ⟨#[98, 105, 110, 32, 51]⟩, ⟨#[122, 101, 114, 111, 32, 49]⟩, ⟨#[106, 109, 112, 32, 53, 49, 50]⟩, ⟨#[110, 111, 112, 32, 48]⟩, ⟨#[78, 111, 112]⟩, ⟨#[108, 111, 97, 100, 32, 45, 49]⟩]
def dec3 (u : Nat) : List UInt8 := if u < 10 then [UInt8.ofNat (48 + u)] else if u < 100 then [UInt8.ofNat (48 + u / 10), UInt8.ofNat (48 + u % 10)] else [UInt8.ofNat (48 + u / 10 / 10), UInt8.ofNat (48 + u / 10 % 10), UInt8.ofNat (48 + u % 10)]
theorem dec3_eq {u : Nat} (h : u < 1000) : Lib.decDigits u = dec3 u := by
  unfold dec3
  split
  · rename_i h1
    rw [Lib.decDigits, dif_pos h1]
  · rename_i h1
    rw [Lib.decDigits, dif_neg h1]
    split
    · rename_i h2
      rw [Lib.decDigits, dif_pos (by omega)]; rfl
    · rename_i h2
      rw [Lib.decDigits, dif_neg (by omega), Lib.decDigits, dif_pos (by omega)]; rfl
def itoS (n : Int) : List UInt8 := if n < 0 then 45 :: dec3 n.natAbs else dec3 n.toNat
theorem itoS_eq {n : Int} (h : n.natAbs < 1000) : Lib.itoa n = itoS n := by
  unfold itoS Lib.itoa
  split
  · rw [dec3_eq h]
  · rw [dec3_eq (by omega)]
def failK (k : Nat) (w : List UInt8) : Bool := if isNamed k then (List.range 20).all fun n => !inB k (n : Int) || decide (showK k (n : Int) ≠ w) else decide ((numN ⟨w.toArray⟩).natAbs < 1000 ∧ itoS (numN ⟨w.toArray⟩) ≠ w) || !inB k (numN ⟨w.toArray⟩)
def noneB (s : ByteArray) : Bool := (List.range 30).all fun k => decide ((Lib.split s.data.toList [32])[0]? ≠ some (rowOf k).1) || decide ((Lib.split s.data.toList [32]).length ≠ 1 + (opsL (ka k) (kb k)).length) || (List.range 2).any fun i => match (opsL (ka k) (kb k))[i]?, (Lib.split s.data.toList [32])[i + 1]? with
  | some x, some w => failK x.1 w
  | _, _ => false
theorem none_ok : ∀ j : Fin 16, noneB (noneT.getD j.val ⟨#[]⟩) = true := by decide +kernel
theorem failK_not {k : Nat} {w : List UInt8} (hk : k ≤ 10) (h : failK k w = true) {m : Int} (hm : inB k m = true) : showK k m ≠ w := by
  have hb := in_bounds hm
  have h1 := lo_ge k
  have h2 := hi_le k hk
  unfold failK at h
  split at h
  · rename_i hn
    have hr : 0 ≤ m ∧ m < 20 := by
      have key : ∀ k : Fin 11, isNamed k.val = true → 0 ≤ lo k.val ∧ hi k.val < 20 := by decide +kernel
      have := key ⟨k, by omega⟩ hn
      simp only at this
      omega
    have h3 := List.all_eq_true.1 h m.toNat (List.mem_range.2 (by omega))
    have e : ((m.toNat : Nat) : Int) = m := by omega
    rw [e, hm] at h3
    simpa using h3
  · rename_i hn
    have e : showK k m = Lib.itoa m := by unfold showK; rw [if_neg hn]
    intro hw
    have hv : numN ⟨w.toArray⟩ = m := rdI_num (k := k) ⟨w.toArray⟩ (by simpa using hn) hk m hm (by rw [hw])
    rw [hv, hm] at h
    simp only [Bool.not_true, Bool.or_false, decide_eq_true_eq] at h
    exact h.2 ((itoS_eq h.1).symm.trans (e.symm.trans hw))
theorem none_read {s : ByteArray} (h : noneB s = true) : ReadIs s 0 0 0 40 := by
  refine .inr ⟨rfl, rfl, rfl, rfl, fun op a b hok hs => ?_⟩
  have h1 := ok_op hok
  have h3 := List.all_eq_true.1 h op.toNat (List.mem_range.2 (by omega))
  have e : ((op.toNat : Nat) : Int) = op := by omega
  rw [hs, split_show hok, e, nameL_at h1.1 h1.2.1] at h3
  simp only [List.getElem?_cons_zero, ne_eq, not_true_eq_false, decide_false, Bool.false_or, List.length_cons, List.length_map] at h3
  rw [Nat.add_comm] at h3
  simp only [not_true_eq_false, decide_false, Bool.false_or] at h3
  obtain ⟨i, hi, hf⟩ := List.any_eq_true.1 h3
  rw [List.getElem?_cons_succ, List.getElem?_map] at hf
  cases hx : (opsL (ka op) (kb op))[i]? with
  | none => rw [hx] at hf; cases hf
  | some x =>
    rw [hx] at hf
    have hmem := List.mem_of_getElem? hx
    have hv := vals_in hok x hmem
    exact failK_not hv.1 hf hv.2 rfl
theorem dc1 : decR (rest [0] 0) = ((0, 0, 0), 0, 1) := by decide +kernel
theorem dc2 : decR (rest [30] 0) = ((0, 0, 0), 12, 0) := by decide +kernel
theorem dc3 : decR (rest [9, 1] 0) = ((0, 0, 0), 10, 2) := by decide +kernel
theorem dc4 : decR (rest [2, 0] 0) = ((0, 0, 0), 40, 2) := by decide +kernel
theorem dc5 : decR (rest [9, 1, 4] 0) = ((0, 0, 0), 12, 2) := by decide +kernel
theorem dc6 : decR (rest [18, 130, 0] 0) = ((0, 0, 0), 12, 1) := by decide +kernel
def namesB (n : Nat) : List ByteArray := (List.range n).map fun (i : Nat) => (⟨(nameL ((i : Int) - 1)).toArray⟩ : ByteArray)
theorem namesB_succ (k : Nat) : namesB (k + 1) = namesB k ++ [⟨(nameL ((k : Int) - 1)).toArray⟩] := by unfold namesB; rw [List.range_succ, List.map_append]; rfl
theorem namesB_len (k : Nat) : (namesB k).length = k := by unfold namesB; rw [List.length_map, List.length_range]
def nameS : ByteArray := ⟨(Lib.join ((namesB 32).map (·.data.toList)) [32]).toArray⟩
theorem name_join : (Lib.join ((namesB 32).map (·.data.toList)) (ByteArray.mk #[32]).data.toList).length ≤ 140737488355328 := by decide +kernel
end Go.Proofs.YtamagdnlicnefaaGreatDoor
