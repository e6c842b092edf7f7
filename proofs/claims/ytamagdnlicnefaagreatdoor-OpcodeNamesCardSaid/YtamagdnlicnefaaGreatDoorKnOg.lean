/- Opcode: one. -/
import Derived.Test.YtamagdnlicnefaaGreatDoorKnOf
import Derived.Test.YtamagdnlicnefaaGreatDoorKnV1
namespace Go.Proofs.YtamagdnlicnefaaGreatDoor
open Go.RowKit Go.Shelf Go.Proofs.YtamagdnlicnefaaGreatDoorW.PrintWords Go.Proofs.YtamagdnlicnefaaGreatDoorW.PrintLast Go.Proofs.YtamagdnlicnefaaGreatDoorW.PrintMore

def oneR (k : Nat) (l : List Nat) : Int × Nat × Nat :=
  if k = 1 then readS l (lo 1) (hi 1) else (((readN l (hi k)).1 : Int), (if (readN l (hi k)).2.1 = 0 ∧ ((readN l (hi k)).1 : Int) < lo k then 40 else (readN l (hi k)).2.1), (readN l (hi k)).2.2)
theorem readN_le (l : List Nat) (most : Int) (h : 0 ≤ most) : ((readN l most).1 : Int) ≤ most := by
  unfold readN
  split
  · split
    · exact h
    · simp only; omega
  · exact h
theorem readN_code (l : List Nat) (most : Int) : (readN l most).2.1 < 100 := by
  have := look_code l
  unfold readN
  split
  · split
    · simp only; omega
    · simp only; omega
  · simp only; omega
theorem hi_ge (k : Nat) (hk : k ≤ 10) : 0 ≤ hi k := by
  have : ∀ k : Fin 11, 0 ≤ hi k.val := by decide +kernel
  exact this ⟨k, by omega⟩
theorem FunsAt.one {W : World} {k : Nat} {sh rd : Value} (h : FunsAt W k sh rd) : sh.oneCell' = true ∧ rd.oneCell' = true := by
  by_cases hk : isNamed k = true
  all_goals
    unfold FunsAt at h
    first | rw [if_pos hk] at h | rw [if_neg hk] at h
  · obtain ⟨b, rfl, rfl, _⟩ := h
    exact ⟨rfl, rfl⟩
  · obtain ⟨rfl, rfl⟩ := h
    exact ⟨rfl, rfl⟩
theorem ReelIs.farX {W : World} {g base p bx : Nat} {v : Value} {bs : List Int} {c : Array Value} (h : ReelIs W g base v bs p) (hx : W.heap[bx]? = some (.cells c 23 (0, 0))) (o : Nat) (u : Value) : ReelIs (W.setCell ⟨bx, o, none⟩ u) g base v bs p := by
  have hF : Fr (fun i => i = bx) W (W.setCell ⟨bx, o, none⟩ u) := (Fr.refl _ _).set _ _ (fun _ => rfl)
  have ne : ∀ {b : Nat} {d : Array Value} {t : TypeId}, W.heap[b]? = some (.cells d t (0, 0)) → t ≠ 23 → b ≠ bx := fun {b d t} h1 h2 e => by
    subst e
    rw [hx] at h1
    injection h1 with h1
    injection h1 with _ h1
    exact h2 h1.symm
  refine ⟨hF.at h.blk (ne h.blk (by decide)), ⟨h.own.1, ?_⟩, h.le, h.small, h.bytes⟩
  rcases h.own.2 with h' | ⟨r, cap, cur, hu, hb, hr, rest⟩
  · exact .inl h'
  · exact .inr ⟨r, cap, cur, hu, hb, hF.at hr (ne hr (by decide)), rest⟩
def xset (c0 c1 c2 : Value) (o : Nat) (n : Int) : Array Value := if o = 1 then #[c0, .int .i64 n, c2] else #[c0, c1, .int .i64 n]
set_option maxRecDepth 100000 in
set_option maxHeartbeats 4000000 in
theorem one34_num (g base bx o k : Nat) (v : Value) (bs : List Int) (p : Nat) (c0 c1 c2 : Value) (w : World) (hR : ReelIs w g base v bs p) (hX : w.heap[bx]? = some (.cells #[c0, c1, c2] 23 (0, 0))) (hk : k ≤ 10) (hk1 : k ≠ 1) (ho : o = 1 ∨ o = 2) :
    Calls Tryz.prog 54 #[.pointer (some ⟨g, 0, none⟩), .agg #[.int .i64 k, .pointer (some ⟨bx, o, none⟩)]] w fun e w' => e = .returned (.int .i64 (oneR k (rest bs p)).2.1) ∧
      ReelIs w' g base v bs (p + (oneR k (rest bs p)).2.2) ∧ w'.heap[bx]? = some (.cells (xset c0 c1 c2 o (oneR k (rest bs p)).1) 23 (0, 0)) ∧ Fr (fun i => i = g ∨ i = bx) w w' := by
  have HR := Lib.hid hR
  have HX := Lib.hid hX
  have hbx := blk_lt hX
  have hg := blk_lt hR.blk
  have hgx : g ≠ bx := by
    rintro rfl
    have h := hR.blk
    rw [hX] at h
    injection h with h
    injection h with _ h
    exact absurd h (by decide)
  have HOF := Lib.hid (of23_at k hk)
  have hb : ((k : Int) == 1) = false := beq_eq_false_iff_ne.2 (by omega)
  have hhi := hi_ge k hk
  have hhi2 := hi_le k hk
  clear hR hX
  have HN := Lib.hid (fun W (h : ReelIs W g base v bs p) => RNumber_any W g base v bs p (hi k) h)
  have hle := readN_le (rest bs p) (hi k) hhi
  have hcd := readN_code (rest bs p) (hi k)
  have HO : Hid (oneR k (rest bs p) = (((readN (rest bs p) (hi k)).1 : Int), (if (readN (rest bs p) (hi k)).2.1 = 0 ∧ ((readN (rest bs p) (hi k)).1 : Int) < lo k then 40 else (readN (rest bs p) (hi k)).2.1), (readN (rest bs p) (hi k)).2.2)) := Lib.hid (if_neg hk1)
  generalize oneR k (rest bs p) = oR at *
  generalize readN (rest bs p) (hi k) = rN at *
  obtain ⟨m, code, wd⟩ := rN
  simp only at HN hle hcd HO
  clear hk1
  go_enter Tryz.func54, Tryz.ntmps54
  have hF0 : Below w.heap.size w (w.alloc (.cells #[.int .i64 k, .pointer (some ⟨bx, o, none⟩)] 81)) := below_alloc (Below.refl _ _) _
  have hbo0 := World.alloc_heap_new w (.cells #[.int .i64 k, .pointer (some ⟨bx, o, none⟩)] 81)
  have HF0 := Lib.hid hF0
  have HBO0 := Lib.hid hbo0
  clear hF0 hbo0
  go_wp2_with fail
  refine (HOF.out _).mono ?_
  rintro e w1 ⟨sh, rd, rfl, hf, hb1⟩
  have HONE : Hid ([Value.int .i64 (lo k), .int .i64 (hi k), sh, rd].all (·.oneCell') = true) := Lib.hid (by simp only [List.all_cons, hf.one.1, hf.one.2]; rfl)
  have hl1 := below_step HF0.out hb1
  have hbo1 := (hb1.block _ (blk_lt HBO0.out)).trans HBO0.out
  have hbo2 := (Below.heap_alloc w1 (.cells #[.int .i64 (lo k), .int .i64 (hi k), sh, rd] 68) _ (blk_lt hbo1)).trans hbo1
  have hsz1 := hl1.size
  have hbk2 := World.alloc_heap_new w1 (.cells #[.int .i64 (lo k), .int .i64 (hi k), sh, rd] 68)
  have hR2 : ReelIs (w1.alloc (.cells #[.int .i64 (lo k), .int .i64 (hi k), sh, rd] 68)) g base v bs p := HR.out.below (below_alloc hl1 _)
  have hX2 := ((below_alloc hl1 (.cells #[.int .i64 (lo k), .int .i64 (hi k), sh, rd] 68)).block bx hbx).trans HX.out
  have hl2 := below_alloc hl1 (.cells #[.int .i64 (lo k), .int .i64 (hi k), sh, rd] 68)
  have q0 := blk_cell hbo1 0
  simp only [List.getElem?_toArray, List.getElem?_cons_zero] at q0
  have hwo : w.heap.size < w1.heap.size := blk_lt hbo1
  have HBO2 := Lib.hid hbo2
  have HBK2 := Lib.hid hbk2
  have HR2 := Lib.hid hR2
  have HX2 := Lib.hid hX2
  have HL2 := Lib.hid hl2
  clear hf hb1 hl1 hbo1 hbo2 hbk2 hR2 hX2 hl2 HBO0 HF0
  go_wp2_with ((with_reducible refine gate_ (.store 68 (.tmp 5) (.tmp 12)) rfl ?_); refine store_newL 68 (.tmp 5) (.tmp 12) _ [.int .i64 (lo k), .int .i64 (hi k), sh, rd] _ rfl rfl rfl rfl rfl rfl (by kernel_rfl) rfl HONE.out ?_)
  refine (HN.out _ HR2.out).mono ?_
  rintro e w3 ⟨rfl, hR3, hF3⟩
  have hbo3 := hF3.at HBO2.out (show ¬ w.heap.size = g by omega)
  have hbk3 := hF3.at HBK2.out (show ¬ w1.heap.size = g by omega)
  have hbx3 := hF3.at HX2.out (show ¬ bx = g by omega)
  have hl3 : Fr (fun i => i = g ∨ i = bx) w w3 := (Fr.of_below HL2.out).trans hF3 (fun _ _ h => .inl h)
  have q1 := blk_cell hbo3 1
  have q0 := blk_cell hbo3 0
  simp only [List.getElem?_toArray, List.getElem?_cons_zero, List.getElem?_cons_succ] at q0 q1
  have HR3 := Lib.hid hR3
  have HBO3 := Lib.hid hbo3
  have HBK3 := Lib.hid hbk3
  have HX3 := Lib.hid hbx3
  have HL3 := Lib.hid hl3
  clear hR3 hF3 hbo3 hbk3 hbx3 hl3 HR2 HBO2 HBK2 HX2 HL2 HX HR HN HOF HONE
  rcases ho with rfl | rfl
  · have s0 := blk_cell HX3.out 1
    have s1 := blk_frozen HX3.out 1
    simp only [List.getElem?_toArray, List.getElem?_cons_zero, List.getElem?_cons_succ] at s0
    have u1 := blk_set HX3.out 1 (.int .i64 m)
    have u2 : (w3.setCell ⟨bx, 1, none⟩ (.int .i64 m)).heap[w.heap.size]? = _ := blk_far HBO3.out (p := ⟨bx, 1, none⟩) (by simp; omega) _
    have u3 : (w3.setCell ⟨bx, 1, none⟩ (.int .i64 m)).heap[w1.heap.size]? = _ := blk_far HBK3.out (p := ⟨bx, 1, none⟩) (by simp; omega) _
    have u4 : Fr (fun i => i = g ∨ i = bx) w (w3.setCell ⟨bx, 1, none⟩ (.int .i64 m)) := HL3.out.set _ _ (fun _ => .inr rfl)
    have u5 : ReelIs (w3.setCell ⟨bx, 1, none⟩ (.int .i64 m)) g base v bs (p + wd) := HR3.out.farX HX3.out 1 _
    have U1 : Hid ((w3.setCell ⟨bx, 1, none⟩ (.int .i64 m)).heap[bx]? = some (.cells #[c0, .int .i64 m, c2] 23 (0, 0))) := Lib.hid (by simpa using u1)
    have U2 := Lib.hid u2
    have U3 := Lib.hid u3
    have U4 := Lib.hid u4
    have U5 := Lib.hid u5
    clear u1 u2 u3 u4 u5 HR3 HBO3 HBK3 HX3 HL3
    by_cases hc : code = 0
    · subst hc
      have HQ : Hid (∀ W, Below (w3.setCell ⟨bx, 1, none⟩ (.int .i64 m)).heap.size (w3.setCell ⟨bx, 1, none⟩ (.int .i64 m)) W → W.cell? ⟨w.heap.size, 1, none⟩ = some (.pointer (some ⟨bx, 1, none⟩)) ∧ W.cell? ⟨w1.heap.size, 0, none⟩ = some (.int .i64 (lo k)) ∧ W.cell? ⟨w1.heap.size, 1, none⟩ = some (.int .i64 (hi k)) ∧ W.cell? ⟨w1.heap.size, 2, none⟩ = some sh ∧ W.cell? ⟨w1.heap.size, 3, none⟩ = some rd ∧ W.cell? ⟨bx, 1, none⟩ = some (.int .i64 m)) := Lib.hid (fun W hW => by
        have h1 := (hW.block _ (blk_lt U2.out)).trans U2.out
        have h2 := (hW.block _ (blk_lt U3.out)).trans U3.out
        have h3 := (hW.block _ (blk_lt U1.out)).trans U1.out
        exact ⟨blk_cell h1 1, blk_cell h2 0, blk_cell h2 1, blk_cell h2 2, blk_cell h2 3, blk_cell h3 1⟩)
      by_cases hlo : lo k ≤ m
      · have HIN : Hid (∀ W, Calls Tryz.prog 39 #[.agg #[.int .i64 (lo k), .int .i64 (hi k), sh, rd], .int .i64 m] W fun e w' => e = .returned (.bool true) ∧ Below W.heap.size W w') := Lib.hid (fun W => by have := in24_any (lo k) (hi k) m sh rd W; rw [decide_eq_true hlo, decide_eq_true hle] at this; exact this)
        have HOO : Hid (oR = ((m : Int), 0, wd)) := Lib.hid (HO.out.trans (by rw [if_neg (by omega)]))
        clear hlo
        go_wp2
        generalize w3.setCell ⟨bx, 1, none⟩ (.int .i64 m) = w4 at *
        have HW : Hid (Below w4.heap.size w4 w4.drew) := Lib.hid (below_drew (Below.refl _ _))
        -- region 8: 11 operations: 0:move 1:binOp 2:move 3:load 4:fieldAddr 5:load 6:nilCheck 7:load 8:call 9:unOp 10:pick
        refine start_ (S := fun W' => W'.cell? ⟨w.heap.size, 1, none⟩ = some (.pointer (some ⟨bx, 1, none⟩)) ∧ W'.cell? ⟨w1.heap.size, 0, none⟩ = some (.int .i64 (lo k)) ∧ W'.cell? ⟨w1.heap.size, 1, none⟩ = some (.int .i64 (hi k)) ∧ W'.cell? ⟨w1.heap.size, 2, none⟩ = some sh ∧ W'.cell? ⟨w1.heap.size, 3, none⟩ = some rd ∧ W'.cell? ⟨bx, 1, none⟩ = some (.int .i64 m)) (ds := []) #[false, false, false, false, false, false, false, false, false, false, false] (by kernel_rfl) rfl rfl (HQ.out _ HW.out) (fun hHeld => ?_)
        refine pure_ (i := 0) (N := some 43) (v := ?_) (a' := ?_) #[true, false, false, false, false, false, false, false, false, false, false] rfl rfl (by kernel_rfl) (fun _ _ _ h => h) (Or.inl ⟨by rfl, ?_⟩) ?_ ?_
        rotate_left
        · intro w'
          go_simp
          with_reducible rfl
        rotate_left
        · simp only [Act.put, List.setIfInBounds_toArray, List.set_cons_zero, List.set_cons_succ]
          rfl
        refine pure_ (i := 1) (N := some 44) (v := ?_) (a' := ?_) #[true, true, false, false, false, false, false, false, false, false, false] rfl rfl (by kernel_rfl) (fun _ _ _ h => h) (Or.inl ⟨by rfl, ?_⟩) ?_ ?_
        rotate_left
        · intro w'
          go_simp
          with_reducible rfl
        rotate_left
        · simp only [Act.put, List.setIfInBounds_toArray, List.set_cons_zero, List.set_cons_succ]
          rfl
        refine pure_ (i := 2) (N := some 45) (v := ?_) (a' := ?_) #[true, true, true, false, false, false, false, false, false, false, false] rfl rfl (by kernel_rfl) (fun _ _ _ h => h) (Or.inl ⟨by rfl, ?_⟩) ?_ ?_
        rotate_left
        · intro w'
          go_simp
          with_reducible rfl
        rotate_left
        · simp only [Act.put, List.setIfInBounds_toArray, List.set_cons_zero, List.set_cons_succ]
          rfl
        refine pure_ (i := 4) (N := some 47) (v := ?_) (a' := ?_) #[true, true, true, false, true, false, false, false, false, false, false] rfl rfl (by kernel_rfl) (fun _ _ _ h => h) (Or.inl ⟨by rfl, ?_⟩) ?_ ?_
        rotate_left
        · intro w'
          go_simp
          with_reducible rfl
        rotate_left
        · simp only [Act.put, List.setIfInBounds_toArray, List.set_cons_zero, List.set_cons_succ]
          rfl
        refine take_ (i := 3) (N := some 46) (v := ?_) (a' := ?_) #[true, true, true, true, true, false, false, false, false, false, false] rfl rfl (by kernel_rfl) (fun _ _ _ h => h) (Or.inl ⟨by rfl, ?_⟩) hHeld ?_ ?_
        rotate_left
        · rintro w' ⟨h0, h1, h2, h3, h4, h5⟩
          go_simp
          with_reducible rfl
        rotate_left
        · simp only [Act.put, List.setIfInBounds_toArray, List.set_cons_zero, List.set_cons_succ]
          rfl
        refine take_ (i := 5) (N := some 48) (v := ?_) (a' := ?_) #[true, true, true, true, true, true, false, false, false, false, false] rfl rfl (by kernel_rfl) (fun _ _ _ h => h) (Or.inl ⟨by rfl, ?_⟩) hHeld ?_ ?_
        rotate_left
        · rintro w' ⟨h0, h1, h2, h3, h4, h5⟩
          go_simp
          with_reducible rfl
        rotate_left
        · simp only [Act.put, List.setIfInBounds_toArray, List.set_cons_zero, List.set_cons_succ]
          rfl
        refine pure_ (i := 6) (N := some 49) (v := ?_) (a' := ?_) #[true, true, true, true, true, true, true, false, false, false, false] rfl rfl (by kernel_rfl) (fun _ _ _ h => h) (Or.inl ⟨by rfl, ?_⟩) ?_ ?_
        rotate_left
        · intro w'
          go_simp
          with_reducible rfl
        rotate_left
        · simp only [Act.put, List.setIfInBounds_toArray, List.set_cons_zero, List.set_cons_succ]
          rfl
        refine take_ (i := 7) (N := some 50) (v := ?_) (a' := ?_) #[true, true, true, true, true, true, true, true, false, false, false] rfl rfl (by kernel_rfl) (fun _ _ _ h => h) (Or.inl ⟨by rfl, ?_⟩) hHeld ?_ ?_
        rotate_left
        · rintro w' ⟨h0, h1, h2, h3, h4, h5⟩
          go_simp
          with_reducible rfl
        rotate_left
        · simp only [Act.put, List.setIfInBounds_toArray, List.set_cons_zero, List.set_cons_succ]
          rfl
        refine one_ (i := 8) (N := some 51) #[true, true, true, true, true, true, true, true, true, false, false] rfl rfl (by kernel_rfl) (by decide) (fun K hK => ?_)
        refine goes_ Tryz.func39 (by kernel_rfl) rfl #[.agg #[.int .i64 (lo k), .int .i64 (hi k), sh, rd], .int .i64 m] (by rfl) rfl rfl (by simp only [List.map_toArray, List.map_cons, List.map_nil]; rfl) ?_
        with_reducible refine (HIN.out _).mono ?_
        rintro e w_ ⟨rfl, hb_⟩
        refine ⟨_, rfl, ?_⟩
        have HW_ := Lib.hid (below_step HW.out hb_)
        clear HW
        have HW := HW_
        clear HW_ hb_
        refine hK.out _ _ (HQ.out _ HW.out) (fun hHeld => ?_)
        clear hK K
        refine norm_ (a' := ?_) ?_ ?_
        rotate_left
        · show Act.put _ (some 51) _ = _
          simp only [Act.put, List.setIfInBounds_toArray, List.set_cons_zero, List.set_cons_succ]
          rfl
        refine pure_ (i := 9) (N := some 52) (v := ?_) (a' := ?_) #[true, true, true, true, true, true, true, true, true, true, false] rfl rfl (by kernel_rfl) (fun _ _ _ h => h) (Or.inl ⟨by rfl, ?_⟩) ?_ ?_
        rotate_left
        · intro w'
          go_simp
          with_reducible rfl
        rotate_left
        · simp only [Act.put, List.setIfInBounds_toArray, List.set_cons_zero, List.set_cons_succ]
          rfl
        refine pure_ (i := 10) (N := some 53) (v := ?_) (a' := ?_) #[true, true, true, true, true, true, true, true, true, true, true] rfl rfl (by kernel_rfl) (fun _ _ _ h => h) (Or.inl ⟨by rfl, ?_⟩) ?_ ?_
        rotate_left
        · intro w'
          go_simp
          with_reducible rfl
        rotate_left
        · simp only [Act.put, List.setIfInBounds_toArray, List.set_cons_zero, List.set_cons_succ]
          rfl
        refine done_ (by kernel_rfl) ?_
        go_wp2
        go_ret
        rw [HOO.out]
        exact ⟨rfl, U5.out.below HW.out, (HW.out.block _ (blk_lt U1.out)).trans U1.out, U4.out.trans (Fr.of_below (S := fun _ => False) HW.out) (fun _ _ h => h.elim)⟩
      · have HIN : Hid (∀ W, Calls Tryz.prog 39 #[.agg #[.int .i64 (lo k), .int .i64 (hi k), sh, rd], .int .i64 m] W fun e w' => e = .returned (.bool false) ∧ Below W.heap.size W w') := Lib.hid (fun W => by have := in24_any (lo k) (hi k) m sh rd W; rw [decide_eq_false hlo] at this; exact this)
        have HOO : Hid (oR = ((m : Int), 40, wd)) := Lib.hid (HO.out.trans (by rw [if_pos ⟨rfl, by omega⟩]))
        clear hlo
        go_wp2
        generalize w3.setCell ⟨bx, 1, none⟩ (.int .i64 m) = w4 at *
        have HW : Hid (Below w4.heap.size w4 w4.drew) := Lib.hid (below_drew (Below.refl _ _))
        -- region 8: 11 operations: 0:move 1:binOp 2:move 3:load 4:fieldAddr 5:load 6:nilCheck 7:load 8:call 9:unOp 10:pick
        refine start_ (S := fun W' => W'.cell? ⟨w.heap.size, 1, none⟩ = some (.pointer (some ⟨bx, 1, none⟩)) ∧ W'.cell? ⟨w1.heap.size, 0, none⟩ = some (.int .i64 (lo k)) ∧ W'.cell? ⟨w1.heap.size, 1, none⟩ = some (.int .i64 (hi k)) ∧ W'.cell? ⟨w1.heap.size, 2, none⟩ = some sh ∧ W'.cell? ⟨w1.heap.size, 3, none⟩ = some rd ∧ W'.cell? ⟨bx, 1, none⟩ = some (.int .i64 m)) (ds := []) #[false, false, false, false, false, false, false, false, false, false, false] (by kernel_rfl) rfl rfl (HQ.out _ HW.out) (fun hHeld => ?_)
        refine pure_ (i := 0) (N := some 43) (v := ?_) (a' := ?_) #[true, false, false, false, false, false, false, false, false, false, false] rfl rfl (by kernel_rfl) (fun _ _ _ h => h) (Or.inl ⟨by rfl, ?_⟩) ?_ ?_
        rotate_left
        · intro w'
          go_simp
          with_reducible rfl
        rotate_left
        · simp only [Act.put, List.setIfInBounds_toArray, List.set_cons_zero, List.set_cons_succ]
          rfl
        refine pure_ (i := 1) (N := some 44) (v := ?_) (a' := ?_) #[true, true, false, false, false, false, false, false, false, false, false] rfl rfl (by kernel_rfl) (fun _ _ _ h => h) (Or.inl ⟨by rfl, ?_⟩) ?_ ?_
        rotate_left
        · intro w'
          go_simp
          with_reducible rfl
        rotate_left
        · simp only [Act.put, List.setIfInBounds_toArray, List.set_cons_zero, List.set_cons_succ]
          rfl
        refine pure_ (i := 2) (N := some 45) (v := ?_) (a' := ?_) #[true, true, true, false, false, false, false, false, false, false, false] rfl rfl (by kernel_rfl) (fun _ _ _ h => h) (Or.inl ⟨by rfl, ?_⟩) ?_ ?_
        rotate_left
        · intro w'
          go_simp
          with_reducible rfl
        rotate_left
        · simp only [Act.put, List.setIfInBounds_toArray, List.set_cons_zero, List.set_cons_succ]
          rfl
        refine pure_ (i := 4) (N := some 47) (v := ?_) (a' := ?_) #[true, true, true, false, true, false, false, false, false, false, false] rfl rfl (by kernel_rfl) (fun _ _ _ h => h) (Or.inl ⟨by rfl, ?_⟩) ?_ ?_
        rotate_left
        · intro w'
          go_simp
          with_reducible rfl
        rotate_left
        · simp only [Act.put, List.setIfInBounds_toArray, List.set_cons_zero, List.set_cons_succ]
          rfl
        refine take_ (i := 3) (N := some 46) (v := ?_) (a' := ?_) #[true, true, true, true, true, false, false, false, false, false, false] rfl rfl (by kernel_rfl) (fun _ _ _ h => h) (Or.inl ⟨by rfl, ?_⟩) hHeld ?_ ?_
        rotate_left
        · rintro w' ⟨h0, h1, h2, h3, h4, h5⟩
          go_simp
          with_reducible rfl
        rotate_left
        · simp only [Act.put, List.setIfInBounds_toArray, List.set_cons_zero, List.set_cons_succ]
          rfl
        refine take_ (i := 5) (N := some 48) (v := ?_) (a' := ?_) #[true, true, true, true, true, true, false, false, false, false, false] rfl rfl (by kernel_rfl) (fun _ _ _ h => h) (Or.inl ⟨by rfl, ?_⟩) hHeld ?_ ?_
        rotate_left
        · rintro w' ⟨h0, h1, h2, h3, h4, h5⟩
          go_simp
          with_reducible rfl
        rotate_left
        · simp only [Act.put, List.setIfInBounds_toArray, List.set_cons_zero, List.set_cons_succ]
          rfl
        refine pure_ (i := 6) (N := some 49) (v := ?_) (a' := ?_) #[true, true, true, true, true, true, true, false, false, false, false] rfl rfl (by kernel_rfl) (fun _ _ _ h => h) (Or.inl ⟨by rfl, ?_⟩) ?_ ?_
        rotate_left
        · intro w'
          go_simp
          with_reducible rfl
        rotate_left
        · simp only [Act.put, List.setIfInBounds_toArray, List.set_cons_zero, List.set_cons_succ]
          rfl
        refine take_ (i := 7) (N := some 50) (v := ?_) (a' := ?_) #[true, true, true, true, true, true, true, true, false, false, false] rfl rfl (by kernel_rfl) (fun _ _ _ h => h) (Or.inl ⟨by rfl, ?_⟩) hHeld ?_ ?_
        rotate_left
        · rintro w' ⟨h0, h1, h2, h3, h4, h5⟩
          go_simp
          with_reducible rfl
        rotate_left
        · simp only [Act.put, List.setIfInBounds_toArray, List.set_cons_zero, List.set_cons_succ]
          rfl
        refine one_ (i := 8) (N := some 51) #[true, true, true, true, true, true, true, true, true, false, false] rfl rfl (by kernel_rfl) (by decide) (fun K hK => ?_)
        refine goes_ Tryz.func39 (by kernel_rfl) rfl #[.agg #[.int .i64 (lo k), .int .i64 (hi k), sh, rd], .int .i64 m] (by rfl) rfl rfl (by simp only [List.map_toArray, List.map_cons, List.map_nil]; rfl) ?_
        with_reducible refine (HIN.out _).mono ?_
        rintro e w_ ⟨rfl, hb_⟩
        refine ⟨_, rfl, ?_⟩
        have HW_ := Lib.hid (below_step HW.out hb_)
        clear HW
        have HW := HW_
        clear HW_ hb_
        refine hK.out _ _ (HQ.out _ HW.out) (fun hHeld => ?_)
        clear hK K
        refine norm_ (a' := ?_) ?_ ?_
        rotate_left
        · show Act.put _ (some 51) _ = _
          simp only [Act.put, List.setIfInBounds_toArray, List.set_cons_zero, List.set_cons_succ]
          rfl
        refine pure_ (i := 9) (N := some 52) (v := ?_) (a' := ?_) #[true, true, true, true, true, true, true, true, true, true, false] rfl rfl (by kernel_rfl) (fun _ _ _ h => h) (Or.inl ⟨by rfl, ?_⟩) ?_ ?_
        rotate_left
        · intro w'
          go_simp
          with_reducible rfl
        rotate_left
        · simp only [Act.put, List.setIfInBounds_toArray, List.set_cons_zero, List.set_cons_succ]
          rfl
        refine pure_ (i := 10) (N := some 53) (v := ?_) (a' := ?_) #[true, true, true, true, true, true, true, true, true, true, true] rfl rfl (by kernel_rfl) (fun _ _ _ h => h) (Or.inl ⟨by rfl, ?_⟩) ?_ ?_
        rotate_left
        · intro w'
          go_simp
          with_reducible rfl
        rotate_left
        · simp only [Act.put, List.setIfInBounds_toArray, List.set_cons_zero, List.set_cons_succ]
          rfl
        refine done_ (by kernel_rfl) ?_
        go_wp2
        go_ret
        rw [HOO.out]
        exact ⟨rfl, U5.out.below HW.out, (HW.out.block _ (blk_lt U1.out)).trans U1.out, U4.out.trans (Fr.of_below (S := fun _ => False) HW.out) (fun _ _ h => h.elim)⟩
    · have hcb : ((code : Int) == 0) = false := beq_eq_false_iff_ne.2 (by omega)
      have HOO : Hid (oR = ((m : Int), code, wd)) := Lib.hid (HO.out.trans (by rw [if_neg (fun h => hc h.1)]))
      clear hc
      go_wp2
      generalize w3.setCell ⟨bx, 1, none⟩ (.int .i64 m) = w4 at *
      go_quiet (fail)
      go_wp2
      go_ret
      rw [HOO.out]
      exact ⟨rfl, U5.out.below (pw_below_drewN (Below.refl _ _) _), U1.out, U4.out.trans (Fr.of_below (S := fun _ => False) (pw_below_drewN (Below.refl _ _) _)) (fun _ _ h => h.elim)⟩
  · have s0 := blk_cell HX3.out 2
    have s1 := blk_frozen HX3.out 2
    simp only [List.getElem?_toArray, List.getElem?_cons_zero, List.getElem?_cons_succ] at s0
    have u1 := blk_set HX3.out 2 (.int .i64 m)
    have u2 : (w3.setCell ⟨bx, 2, none⟩ (.int .i64 m)).heap[w.heap.size]? = _ := blk_far HBO3.out (p := ⟨bx, 2, none⟩) (by simp; omega) _
    have u3 : (w3.setCell ⟨bx, 2, none⟩ (.int .i64 m)).heap[w1.heap.size]? = _ := blk_far HBK3.out (p := ⟨bx, 2, none⟩) (by simp; omega) _
    have u4 : Fr (fun i => i = g ∨ i = bx) w (w3.setCell ⟨bx, 2, none⟩ (.int .i64 m)) := HL3.out.set _ _ (fun _ => .inr rfl)
    have u5 : ReelIs (w3.setCell ⟨bx, 2, none⟩ (.int .i64 m)) g base v bs (p + wd) := HR3.out.farX HX3.out 2 _
    have U1 : Hid ((w3.setCell ⟨bx, 2, none⟩ (.int .i64 m)).heap[bx]? = some (.cells #[c0, c1, .int .i64 m] 23 (0, 0))) := Lib.hid (by simpa using u1)
    have U2 := Lib.hid u2
    have U3 := Lib.hid u3
    have U4 := Lib.hid u4
    have U5 := Lib.hid u5
    clear u1 u2 u3 u4 u5 HR3 HBO3 HBK3 HX3 HL3
    by_cases hc : code = 0
    · subst hc
      have HQ : Hid (∀ W, Below (w3.setCell ⟨bx, 2, none⟩ (.int .i64 m)).heap.size (w3.setCell ⟨bx, 2, none⟩ (.int .i64 m)) W → W.cell? ⟨w.heap.size, 1, none⟩ = some (.pointer (some ⟨bx, 2, none⟩)) ∧ W.cell? ⟨w1.heap.size, 0, none⟩ = some (.int .i64 (lo k)) ∧ W.cell? ⟨w1.heap.size, 1, none⟩ = some (.int .i64 (hi k)) ∧ W.cell? ⟨w1.heap.size, 2, none⟩ = some sh ∧ W.cell? ⟨w1.heap.size, 3, none⟩ = some rd ∧ W.cell? ⟨bx, 2, none⟩ = some (.int .i64 m)) := Lib.hid (fun W hW => by
        have h1 := (hW.block _ (blk_lt U2.out)).trans U2.out
        have h2 := (hW.block _ (blk_lt U3.out)).trans U3.out
        have h3 := (hW.block _ (blk_lt U1.out)).trans U1.out
        exact ⟨blk_cell h1 1, blk_cell h2 0, blk_cell h2 1, blk_cell h2 2, blk_cell h2 3, blk_cell h3 2⟩)
      by_cases hlo : lo k ≤ m
      · have HIN : Hid (∀ W, Calls Tryz.prog 39 #[.agg #[.int .i64 (lo k), .int .i64 (hi k), sh, rd], .int .i64 m] W fun e w' => e = .returned (.bool true) ∧ Below W.heap.size W w') := Lib.hid (fun W => by have := in24_any (lo k) (hi k) m sh rd W; rw [decide_eq_true hlo, decide_eq_true hle] at this; exact this)
        have HOO : Hid (oR = ((m : Int), 0, wd)) := Lib.hid (HO.out.trans (by rw [if_neg (by omega)]))
        clear hlo
        go_wp2
        generalize w3.setCell ⟨bx, 2, none⟩ (.int .i64 m) = w4 at *
        have HW : Hid (Below w4.heap.size w4 w4.drew) := Lib.hid (below_drew (Below.refl _ _))
        -- region 8: 11 operations: 0:move 1:binOp 2:move 3:load 4:fieldAddr 5:load 6:nilCheck 7:load 8:call 9:unOp 10:pick
        refine start_ (S := fun W' => W'.cell? ⟨w.heap.size, 1, none⟩ = some (.pointer (some ⟨bx, 2, none⟩)) ∧ W'.cell? ⟨w1.heap.size, 0, none⟩ = some (.int .i64 (lo k)) ∧ W'.cell? ⟨w1.heap.size, 1, none⟩ = some (.int .i64 (hi k)) ∧ W'.cell? ⟨w1.heap.size, 2, none⟩ = some sh ∧ W'.cell? ⟨w1.heap.size, 3, none⟩ = some rd ∧ W'.cell? ⟨bx, 2, none⟩ = some (.int .i64 m)) (ds := []) #[false, false, false, false, false, false, false, false, false, false, false] (by kernel_rfl) rfl rfl (HQ.out _ HW.out) (fun hHeld => ?_)
        refine pure_ (i := 0) (N := some 43) (v := ?_) (a' := ?_) #[true, false, false, false, false, false, false, false, false, false, false] rfl rfl (by kernel_rfl) (fun _ _ _ h => h) (Or.inl ⟨by rfl, ?_⟩) ?_ ?_
        rotate_left
        · intro w'
          go_simp
          with_reducible rfl
        rotate_left
        · simp only [Act.put, List.setIfInBounds_toArray, List.set_cons_zero, List.set_cons_succ]
          rfl
        refine pure_ (i := 1) (N := some 44) (v := ?_) (a' := ?_) #[true, true, false, false, false, false, false, false, false, false, false] rfl rfl (by kernel_rfl) (fun _ _ _ h => h) (Or.inl ⟨by rfl, ?_⟩) ?_ ?_
        rotate_left
        · intro w'
          go_simp
          with_reducible rfl
        rotate_left
        · simp only [Act.put, List.setIfInBounds_toArray, List.set_cons_zero, List.set_cons_succ]
          rfl
        refine pure_ (i := 2) (N := some 45) (v := ?_) (a' := ?_) #[true, true, true, false, false, false, false, false, false, false, false] rfl rfl (by kernel_rfl) (fun _ _ _ h => h) (Or.inl ⟨by rfl, ?_⟩) ?_ ?_
        rotate_left
        · intro w'
          go_simp
          with_reducible rfl
        rotate_left
        · simp only [Act.put, List.setIfInBounds_toArray, List.set_cons_zero, List.set_cons_succ]
          rfl
        refine pure_ (i := 4) (N := some 47) (v := ?_) (a' := ?_) #[true, true, true, false, true, false, false, false, false, false, false] rfl rfl (by kernel_rfl) (fun _ _ _ h => h) (Or.inl ⟨by rfl, ?_⟩) ?_ ?_
        rotate_left
        · intro w'
          go_simp
          with_reducible rfl
        rotate_left
        · simp only [Act.put, List.setIfInBounds_toArray, List.set_cons_zero, List.set_cons_succ]
          rfl
        refine take_ (i := 3) (N := some 46) (v := ?_) (a' := ?_) #[true, true, true, true, true, false, false, false, false, false, false] rfl rfl (by kernel_rfl) (fun _ _ _ h => h) (Or.inl ⟨by rfl, ?_⟩) hHeld ?_ ?_
        rotate_left
        · rintro w' ⟨h0, h1, h2, h3, h4, h5⟩
          go_simp
          with_reducible rfl
        rotate_left
        · simp only [Act.put, List.setIfInBounds_toArray, List.set_cons_zero, List.set_cons_succ]
          rfl
        refine take_ (i := 5) (N := some 48) (v := ?_) (a' := ?_) #[true, true, true, true, true, true, false, false, false, false, false] rfl rfl (by kernel_rfl) (fun _ _ _ h => h) (Or.inl ⟨by rfl, ?_⟩) hHeld ?_ ?_
        rotate_left
        · rintro w' ⟨h0, h1, h2, h3, h4, h5⟩
          go_simp
          with_reducible rfl
        rotate_left
        · simp only [Act.put, List.setIfInBounds_toArray, List.set_cons_zero, List.set_cons_succ]
          rfl
        refine pure_ (i := 6) (N := some 49) (v := ?_) (a' := ?_) #[true, true, true, true, true, true, true, false, false, false, false] rfl rfl (by kernel_rfl) (fun _ _ _ h => h) (Or.inl ⟨by rfl, ?_⟩) ?_ ?_
        rotate_left
        · intro w'
          go_simp
          with_reducible rfl
        rotate_left
        · simp only [Act.put, List.setIfInBounds_toArray, List.set_cons_zero, List.set_cons_succ]
          rfl
        refine take_ (i := 7) (N := some 50) (v := ?_) (a' := ?_) #[true, true, true, true, true, true, true, true, false, false, false] rfl rfl (by kernel_rfl) (fun _ _ _ h => h) (Or.inl ⟨by rfl, ?_⟩) hHeld ?_ ?_
        rotate_left
        · rintro w' ⟨h0, h1, h2, h3, h4, h5⟩
          go_simp
          with_reducible rfl
        rotate_left
        · simp only [Act.put, List.setIfInBounds_toArray, List.set_cons_zero, List.set_cons_succ]
          rfl
        refine one_ (i := 8) (N := some 51) #[true, true, true, true, true, true, true, true, true, false, false] rfl rfl (by kernel_rfl) (by decide) (fun K hK => ?_)
        refine goes_ Tryz.func39 (by kernel_rfl) rfl #[.agg #[.int .i64 (lo k), .int .i64 (hi k), sh, rd], .int .i64 m] (by rfl) rfl rfl (by simp only [List.map_toArray, List.map_cons, List.map_nil]; rfl) ?_
        with_reducible refine (HIN.out _).mono ?_
        rintro e w_ ⟨rfl, hb_⟩
        refine ⟨_, rfl, ?_⟩
        have HW_ := Lib.hid (below_step HW.out hb_)
        clear HW
        have HW := HW_
        clear HW_ hb_
        refine hK.out _ _ (HQ.out _ HW.out) (fun hHeld => ?_)
        clear hK K
        refine norm_ (a' := ?_) ?_ ?_
        rotate_left
        · show Act.put _ (some 51) _ = _
          simp only [Act.put, List.setIfInBounds_toArray, List.set_cons_zero, List.set_cons_succ]
          rfl
        refine pure_ (i := 9) (N := some 52) (v := ?_) (a' := ?_) #[true, true, true, true, true, true, true, true, true, true, false] rfl rfl (by kernel_rfl) (fun _ _ _ h => h) (Or.inl ⟨by rfl, ?_⟩) ?_ ?_
        rotate_left
        · intro w'
          go_simp
          with_reducible rfl
        rotate_left
        · simp only [Act.put, List.setIfInBounds_toArray, List.set_cons_zero, List.set_cons_succ]
          rfl
        refine pure_ (i := 10) (N := some 53) (v := ?_) (a' := ?_) #[true, true, true, true, true, true, true, true, true, true, true] rfl rfl (by kernel_rfl) (fun _ _ _ h => h) (Or.inl ⟨by rfl, ?_⟩) ?_ ?_
        rotate_left
        · intro w'
          go_simp
          with_reducible rfl
        rotate_left
        · simp only [Act.put, List.setIfInBounds_toArray, List.set_cons_zero, List.set_cons_succ]
          rfl
        refine done_ (by kernel_rfl) ?_
        go_wp2
        go_ret
        rw [HOO.out]
        exact ⟨rfl, U5.out.below HW.out, (HW.out.block _ (blk_lt U1.out)).trans U1.out, U4.out.trans (Fr.of_below (S := fun _ => False) HW.out) (fun _ _ h => h.elim)⟩
      · have HIN : Hid (∀ W, Calls Tryz.prog 39 #[.agg #[.int .i64 (lo k), .int .i64 (hi k), sh, rd], .int .i64 m] W fun e w' => e = .returned (.bool false) ∧ Below W.heap.size W w') := Lib.hid (fun W => by have := in24_any (lo k) (hi k) m sh rd W; rw [decide_eq_false hlo] at this; exact this)
        have HOO : Hid (oR = ((m : Int), 40, wd)) := Lib.hid (HO.out.trans (by rw [if_pos ⟨rfl, by omega⟩]))
        clear hlo
        go_wp2
        generalize w3.setCell ⟨bx, 2, none⟩ (.int .i64 m) = w4 at *
        have HW : Hid (Below w4.heap.size w4 w4.drew) := Lib.hid (below_drew (Below.refl _ _))
        -- region 8: 11 operations: 0:move 1:binOp 2:move 3:load 4:fieldAddr 5:load 6:nilCheck 7:load 8:call 9:unOp 10:pick
        refine start_ (S := fun W' => W'.cell? ⟨w.heap.size, 1, none⟩ = some (.pointer (some ⟨bx, 2, none⟩)) ∧ W'.cell? ⟨w1.heap.size, 0, none⟩ = some (.int .i64 (lo k)) ∧ W'.cell? ⟨w1.heap.size, 1, none⟩ = some (.int .i64 (hi k)) ∧ W'.cell? ⟨w1.heap.size, 2, none⟩ = some sh ∧ W'.cell? ⟨w1.heap.size, 3, none⟩ = some rd ∧ W'.cell? ⟨bx, 2, none⟩ = some (.int .i64 m)) (ds := []) #[false, false, false, false, false, false, false, false, false, false, false] (by kernel_rfl) rfl rfl (HQ.out _ HW.out) (fun hHeld => ?_)
        refine pure_ (i := 0) (N := some 43) (v := ?_) (a' := ?_) #[true, false, false, false, false, false, false, false, false, false, false] rfl rfl (by kernel_rfl) (fun _ _ _ h => h) (Or.inl ⟨by rfl, ?_⟩) ?_ ?_
        rotate_left
        · intro w'
          go_simp
          with_reducible rfl
        rotate_left
        · simp only [Act.put, List.setIfInBounds_toArray, List.set_cons_zero, List.set_cons_succ]
          rfl
        refine pure_ (i := 1) (N := some 44) (v := ?_) (a' := ?_) #[true, true, false, false, false, false, false, false, false, false, false] rfl rfl (by kernel_rfl) (fun _ _ _ h => h) (Or.inl ⟨by rfl, ?_⟩) ?_ ?_
        rotate_left
        · intro w'
          go_simp
          with_reducible rfl
        rotate_left
        · simp only [Act.put, List.setIfInBounds_toArray, List.set_cons_zero, List.set_cons_succ]
          rfl
        refine pure_ (i := 2) (N := some 45) (v := ?_) (a' := ?_) #[true, true, true, false, false, false, false, false, false, false, false] rfl rfl (by kernel_rfl) (fun _ _ _ h => h) (Or.inl ⟨by rfl, ?_⟩) ?_ ?_
        rotate_left
        · intro w'
          go_simp
          with_reducible rfl
        rotate_left
        · simp only [Act.put, List.setIfInBounds_toArray, List.set_cons_zero, List.set_cons_succ]
          rfl
        refine pure_ (i := 4) (N := some 47) (v := ?_) (a' := ?_) #[true, true, true, false, true, false, false, false, false, false, false] rfl rfl (by kernel_rfl) (fun _ _ _ h => h) (Or.inl ⟨by rfl, ?_⟩) ?_ ?_
        rotate_left
        · intro w'
          go_simp
          with_reducible rfl
        rotate_left
        · simp only [Act.put, List.setIfInBounds_toArray, List.set_cons_zero, List.set_cons_succ]
          rfl
        refine take_ (i := 3) (N := some 46) (v := ?_) (a' := ?_) #[true, true, true, true, true, false, false, false, false, false, false] rfl rfl (by kernel_rfl) (fun _ _ _ h => h) (Or.inl ⟨by rfl, ?_⟩) hHeld ?_ ?_
        rotate_left
        · rintro w' ⟨h0, h1, h2, h3, h4, h5⟩
          go_simp
          with_reducible rfl
        rotate_left
        · simp only [Act.put, List.setIfInBounds_toArray, List.set_cons_zero, List.set_cons_succ]
          rfl
        refine take_ (i := 5) (N := some 48) (v := ?_) (a' := ?_) #[true, true, true, true, true, true, false, false, false, false, false] rfl rfl (by kernel_rfl) (fun _ _ _ h => h) (Or.inl ⟨by rfl, ?_⟩) hHeld ?_ ?_
        rotate_left
        · rintro w' ⟨h0, h1, h2, h3, h4, h5⟩
          go_simp
          with_reducible rfl
        rotate_left
        · simp only [Act.put, List.setIfInBounds_toArray, List.set_cons_zero, List.set_cons_succ]
          rfl
        refine pure_ (i := 6) (N := some 49) (v := ?_) (a' := ?_) #[true, true, true, true, true, true, true, false, false, false, false] rfl rfl (by kernel_rfl) (fun _ _ _ h => h) (Or.inl ⟨by rfl, ?_⟩) ?_ ?_
        rotate_left
        · intro w'
          go_simp
          with_reducible rfl
        rotate_left
        · simp only [Act.put, List.setIfInBounds_toArray, List.set_cons_zero, List.set_cons_succ]
          rfl
        refine take_ (i := 7) (N := some 50) (v := ?_) (a' := ?_) #[true, true, true, true, true, true, true, true, false, false, false] rfl rfl (by kernel_rfl) (fun _ _ _ h => h) (Or.inl ⟨by rfl, ?_⟩) hHeld ?_ ?_
        rotate_left
        · rintro w' ⟨h0, h1, h2, h3, h4, h5⟩
          go_simp
          with_reducible rfl
        rotate_left
        · simp only [Act.put, List.setIfInBounds_toArray, List.set_cons_zero, List.set_cons_succ]
          rfl
        refine one_ (i := 8) (N := some 51) #[true, true, true, true, true, true, true, true, true, false, false] rfl rfl (by kernel_rfl) (by decide) (fun K hK => ?_)
        refine goes_ Tryz.func39 (by kernel_rfl) rfl #[.agg #[.int .i64 (lo k), .int .i64 (hi k), sh, rd], .int .i64 m] (by rfl) rfl rfl (by simp only [List.map_toArray, List.map_cons, List.map_nil]; rfl) ?_
        with_reducible refine (HIN.out _).mono ?_
        rintro e w_ ⟨rfl, hb_⟩
        refine ⟨_, rfl, ?_⟩
        have HW_ := Lib.hid (below_step HW.out hb_)
        clear HW
        have HW := HW_
        clear HW_ hb_
        refine hK.out _ _ (HQ.out _ HW.out) (fun hHeld => ?_)
        clear hK K
        refine norm_ (a' := ?_) ?_ ?_
        rotate_left
        · show Act.put _ (some 51) _ = _
          simp only [Act.put, List.setIfInBounds_toArray, List.set_cons_zero, List.set_cons_succ]
          rfl
        refine pure_ (i := 9) (N := some 52) (v := ?_) (a' := ?_) #[true, true, true, true, true, true, true, true, true, true, false] rfl rfl (by kernel_rfl) (fun _ _ _ h => h) (Or.inl ⟨by rfl, ?_⟩) ?_ ?_
        rotate_left
        · intro w'
          go_simp
          with_reducible rfl
        rotate_left
        · simp only [Act.put, List.setIfInBounds_toArray, List.set_cons_zero, List.set_cons_succ]
          rfl
        refine pure_ (i := 10) (N := some 53) (v := ?_) (a' := ?_) #[true, true, true, true, true, true, true, true, true, true, true] rfl rfl (by kernel_rfl) (fun _ _ _ h => h) (Or.inl ⟨by rfl, ?_⟩) ?_ ?_
        rotate_left
        · intro w'
          go_simp
          with_reducible rfl
        rotate_left
        · simp only [Act.put, List.setIfInBounds_toArray, List.set_cons_zero, List.set_cons_succ]
          rfl
        refine done_ (by kernel_rfl) ?_
        go_wp2
        go_ret
        rw [HOO.out]
        exact ⟨rfl, U5.out.below HW.out, (HW.out.block _ (blk_lt U1.out)).trans U1.out, U4.out.trans (Fr.of_below (S := fun _ => False) HW.out) (fun _ _ h => h.elim)⟩
    · have hcb : ((code : Int) == 0) = false := beq_eq_false_iff_ne.2 (by omega)
      have HOO : Hid (oR = ((m : Int), code, wd)) := Lib.hid (HO.out.trans (by rw [if_neg (fun h => hc h.1)]))
      clear hc
      go_wp2
      generalize w3.setCell ⟨bx, 2, none⟩ (.int .i64 m) = w4 at *
      go_quiet (fail)
      go_wp2
      go_ret
      rw [HOO.out]
      exact ⟨rfl, U5.out.below (pw_below_drewN (Below.refl _ _) _), U1.out, U4.out.trans (Fr.of_below (S := fun _ => False) (pw_below_drewN (Below.refl _ _) _)) (fun _ _ h => h.elim)⟩
set_option maxRecDepth 100000 in
set_option maxHeartbeats 4000000 in
theorem one34_sig (g base bx o : Nat) (v : Value) (bs : List Int) (p : Nat) (c0 c1 c2 : Value) (w : World) (hR : ReelIs w g base v bs p) (hX : w.heap[bx]? = some (.cells #[c0, c1, c2] 23 (0, 0))) (ho : o = 1 ∨ o = 2) :
    Calls Tryz.prog 54 #[.pointer (some ⟨g, 0, none⟩), .agg #[.int .i64 (1 : Nat), .pointer (some ⟨bx, o, none⟩)]] w fun e w' => e = .returned (.int .i64 (oneR 1 (rest bs p)).2.1) ∧
      ReelIs w' g base v bs (p + (oneR 1 (rest bs p)).2.2) ∧ w'.heap[bx]? = some (.cells (xset c0 c1 c2 o (oneR 1 (rest bs p)).1) 23 (0, 0)) ∧ Fr (fun i => i = g ∨ i = bx) w w' := by
  have HR := Lib.hid hR
  have HX := Lib.hid hX
  have hbx := blk_lt hX
  have hg := blk_lt hR.blk
  have hgx : g ≠ bx := by
    rintro rfl
    have h := hR.blk
    rw [hX] at h
    injection h with h
    injection h with _ h
    exact absurd h (by decide)
  have HOF := Lib.hid (of23_at 1 (by omega))
  clear hR hX
  have HN := Lib.hid (fun W (h : ReelIs W g base v bs p) => RSigned_any W g base v bs p (lo 1) (hi 1) h)
  have HO : Hid (oneR 1 (rest bs p) = readS (rest bs p) (lo 1) (hi 1)) := Lib.hid (if_pos rfl)
  generalize oneR 1 (rest bs p) = oR at *
  generalize readS (rest bs p) (lo 1) (hi 1) = rN at *
  obtain ⟨m, code, wd⟩ := rN
  simp only at HN HO
  go_enter Tryz.func54, Tryz.ntmps54
  have hF0 : Below w.heap.size w (w.alloc (.cells #[.int .i64 (1 : Nat), .pointer (some ⟨bx, o, none⟩)] 81)) := below_alloc (Below.refl _ _) _
  have hbo0 := World.alloc_heap_new w (.cells #[.int .i64 (1 : Nat), .pointer (some ⟨bx, o, none⟩)] 81)
  have HF0 := Lib.hid hF0
  have HBO0 := Lib.hid hbo0
  clear hF0 hbo0
  go_wp2_with fail
  refine (HOF.out _).mono ?_
  rintro e w1 ⟨sh, rd, rfl, hf, hb1⟩
  have HONE : Hid ([Value.int .i64 (lo 1), .int .i64 (hi 1), sh, rd].all (·.oneCell') = true) := Lib.hid (by simp only [List.all_cons, hf.one.1, hf.one.2]; rfl)
  have hl1 := below_step HF0.out hb1
  have hbo1 := (hb1.block _ (blk_lt HBO0.out)).trans HBO0.out
  have hbo2 := (Below.heap_alloc w1 (.cells #[.int .i64 (lo 1), .int .i64 (hi 1), sh, rd] 68) _ (blk_lt hbo1)).trans hbo1
  have hsz1 := hl1.size
  have hbk2 := World.alloc_heap_new w1 (.cells #[.int .i64 (lo 1), .int .i64 (hi 1), sh, rd] 68)
  have hR2 : ReelIs (w1.alloc (.cells #[.int .i64 (lo 1), .int .i64 (hi 1), sh, rd] 68)) g base v bs p := HR.out.below (below_alloc hl1 _)
  have hX2 := ((below_alloc hl1 (.cells #[.int .i64 (lo 1), .int .i64 (hi 1), sh, rd] 68)).block bx hbx).trans HX.out
  have hl2 := below_alloc hl1 (.cells #[.int .i64 (lo 1), .int .i64 (hi 1), sh, rd] 68)
  have q0 := blk_cell hbo1 0
  simp only [List.getElem?_toArray, List.getElem?_cons_zero] at q0
  have hwo : w.heap.size < w1.heap.size := blk_lt hbo1
  have HBO2 := Lib.hid hbo2
  have HBK2 := Lib.hid hbk2
  have HR2 := Lib.hid hR2
  have HX2 := Lib.hid hX2
  have HL2 := Lib.hid hl2
  clear hf hb1 hl1 hbo1 hbo2 hbk2 hR2 hX2 hl2 HBO0 HF0
  go_wp2_with ((with_reducible refine gate_ (.store 68 (.tmp 5) (.tmp 12)) rfl ?_); refine store_newL 68 (.tmp 5) (.tmp 12) _ [.int .i64 (lo 1), .int .i64 (hi 1), sh, rd] _ rfl rfl rfl rfl rfl rfl (by kernel_rfl) rfl HONE.out ?_)
  refine (HN.out _ HR2.out).mono ?_
  rintro e w3 ⟨rfl, hR3, hF3⟩
  have hbo3 := hF3.at HBO2.out (show ¬ w.heap.size = g by omega)
  have hbk3 := hF3.at HBK2.out (show ¬ w1.heap.size = g by omega)
  have hbx3 := hF3.at HX2.out (show ¬ bx = g by omega)
  have hl3 : Fr (fun i => i = g ∨ i = bx) w w3 := (Fr.of_below HL2.out).trans hF3 (fun _ _ h => .inl h)
  have q1 := blk_cell hbo3 1
  have q0 := blk_cell hbo3 0
  simp only [List.getElem?_toArray, List.getElem?_cons_zero, List.getElem?_cons_succ] at q0 q1
  have HR3 := Lib.hid hR3
  have HBO3 := Lib.hid hbo3
  have HBK3 := Lib.hid hbk3
  have HX3 := Lib.hid hbx3
  have HL3 := Lib.hid hl3
  clear hR3 hF3 hbo3 hbk3 hbx3 hl3 HR2 HBO2 HBK2 HX2 HL2 HX HR HN HOF HONE
  rcases ho with rfl | rfl
  · have s0 := blk_cell HX3.out 1
    have s1 := blk_frozen HX3.out 1
    simp only [List.getElem?_toArray, List.getElem?_cons_zero, List.getElem?_cons_succ] at s0
    have u1 := blk_set HX3.out 1 (.int .i64 m)
    have u4 : Fr (fun i => i = g ∨ i = bx) w (w3.setCell ⟨bx, 1, none⟩ (.int .i64 m)) := HL3.out.set _ _ (fun _ => .inr rfl)
    have u5 : ReelIs (w3.setCell ⟨bx, 1, none⟩ (.int .i64 m)) g base v bs (p + wd) := HR3.out.farX HX3.out 1 _
    have U1 : Hid ((w3.setCell ⟨bx, 1, none⟩ (.int .i64 m)).heap[bx]? = some (.cells #[c0, .int .i64 m, c2] 23 (0, 0))) := Lib.hid (by simpa using u1)
    have U4 := Lib.hid u4
    have U5 := Lib.hid u5
    clear u1 u4 u5 HR3 HBO3 HBK3 HX3 HL3
    go_wp2
    go_ret
    rw [HO.out]
    exact ⟨rfl, U5.out, U1.out, U4.out⟩
  · have s0 := blk_cell HX3.out 2
    have s1 := blk_frozen HX3.out 2
    simp only [List.getElem?_toArray, List.getElem?_cons_zero, List.getElem?_cons_succ] at s0
    have u1 := blk_set HX3.out 2 (.int .i64 m)
    have u4 : Fr (fun i => i = g ∨ i = bx) w (w3.setCell ⟨bx, 2, none⟩ (.int .i64 m)) := HL3.out.set _ _ (fun _ => .inr rfl)
    have u5 : ReelIs (w3.setCell ⟨bx, 2, none⟩ (.int .i64 m)) g base v bs (p + wd) := HR3.out.farX HX3.out 2 _
    have U1 : Hid ((w3.setCell ⟨bx, 2, none⟩ (.int .i64 m)).heap[bx]? = some (.cells #[c0, c1, .int .i64 m] 23 (0, 0))) := Lib.hid (by simpa using u1)
    have U4 := Lib.hid u4
    have U5 := Lib.hid u5
    clear u1 u4 u5 HR3 HBO3 HBK3 HX3 HL3
    go_wp2
    go_ret
    rw [HO.out]
    exact ⟨rfl, U5.out, U1.out, U4.out⟩
theorem one34_any (g base bx o k : Nat) (v : Value) (bs : List Int) (p : Nat) (c0 c1 c2 : Value) (w : World) (hR : ReelIs w g base v bs p) (hX : w.heap[bx]? = some (.cells #[c0, c1, c2] 23 (0, 0))) (hk : k ≤ 10) (ho : o = 1 ∨ o = 2) :
    Calls Tryz.prog 54 #[.pointer (some ⟨g, 0, none⟩), .agg #[.int .i64 k, .pointer (some ⟨bx, o, none⟩)]] w fun e w' => e = .returned (.int .i64 (oneR k (rest bs p)).2.1) ∧
      ReelIs w' g base v bs (p + (oneR k (rest bs p)).2.2) ∧ w'.heap[bx]? = some (.cells (xset c0 c1 c2 o (oneR k (rest bs p)).1) 23 (0, 0)) ∧ Fr (fun i => i = g ∨ i = bx) w w' := by
  by_cases h : k = 1
  · subst h
    exact one34_sig g base bx o v bs p c0 c1 c2 w hR hX ho
  · exact one34_num g base bx o k v bs p c0 c1 c2 w hR hX hk h ho
end Go.Proofs.YtamagdnlicnefaaGreatDoor
