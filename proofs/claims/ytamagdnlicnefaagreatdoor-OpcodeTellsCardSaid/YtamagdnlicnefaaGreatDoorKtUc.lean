/- Opcode: the document's Show. -/
import Derived.Test.YtamagdnlicnefaaGreatDoorKtUb
namespace Go.Proofs.YtamagdnlicnefaaGreatDoor
open Go.RowKit Go.Shelf Go.Proofs.YtamagdnlicnefaaGreatDoorW.PrintWords Go.Proofs.YtamagdnlicnefaaGreatDoorW.PrintLast Go.Proofs.YtamagdnlicnefaaGreatDoorW.PrintMore
open Go.Proofs.YtamagdnlicnefaaGreatDoor.PRef

theorem refCheck (op a b : Int) (h0 : -9223372036854775808 ≤ a) (h1 : a ≤ 9223372036854775807) (h2 : -9223372036854775808 ≤ b) (h3 : b ≤ 9223372036854775807) (w : World) : Calls Tryz.prog 42 #[.agg #[.int .i64 op, .int .i64 a, .int .i64 b]] w fun e w' => e = .returned (.int .i64 (codeE (okB op a b))) ∧ Below w.heap.size w w' :=
  backstayref04_Check.calls 20 op a b _ w (check_f op a b h0 h1 h2 h3)
theorem refKinds (op : Int) (w : World) : Calls Tryz.prog 16 #[.int .i64 op] w fun e w' => e = .returned (.tuple #[.int .i64 (ka op), .int .i64 (kb op)]) ∧ Below w.heap.size w w' :=
  (backstayref04_Kinds.calls 20 op _ _ w (kinds_f op)).mono fun _ _ ⟨h1, h2⟩ => ⟨h1, h2.below⟩
theorem refWord (k : Nat) (n : Int) (hk : k ≤ 10) (hin : inB k n = true) (w : World) : Calls Tryz.prog 47 #[.int .i64 k, .int .i64 n] w fun e w' => e = .returned (.string ⟨(showK k n).toArray⟩) ∧ Below w.heap.size w w' :=
  backstayref04_word.calls 41 k n _ w (word_f k n hk hin)
theorem refNames (k : Nat) (hk : k < 30) (w : World) : Calls Tryz.prog 41 #[] w fun e w' => ∃ ad c, e = .returned (.slice (some ad) 30 c) ∧ w'.cell? (ad.add k) = some (.string ⟨((rowOf k).1).toArray⟩) ∧ Below w.heap.size w w' := by
  obtain ⟨l, h1, h2, h3⟩ := names_at
  refine (backstayref04_names.calls l w h1).mono ?_
  rintro e w' ⟨v, rfl, hR, hb⟩
  obtain ⟨A, c, rfl, hl, hC⟩ := Kd.R_reads hR
  obtain ⟨ad, rfl, hc⟩ := Kd.at_string hC (k : Int) (by omega) (by omega)
  have h4 := h3 ⟨k, hk⟩
  have e : rdOf ByteArray.empty l (k : Int) = ⟨((rowOf k).1).toArray⟩ := by
    unfold rdOf
    rw [Int.toNat_natCast, List.getD_eq_getElem?_getD, h4]
    rfl
  rw [e, Int.toNat_natCast] at hc
  exact ⟨ad, c, by rw [h2], hc, hb⟩
theorem show_bad (op a b : Int) (h : okB op a b = false) (h0 : -9223372036854775808 ≤ a) (h1 : a ≤ 9223372036854775807) (h2 : -9223372036854775808 ≤ b) (h3 : b ≤ 9223372036854775807) (w : World) : Calls Tryz.prog 25 #[.agg #[.int .i64 op, .int .i64 a, .int .i64 b]] w fun e w' => e = .returned (.string ⟨#[]⟩) ∧ Below w.heap.size w w' := by
  have HC : Hid (∀ w, Calls Tryz.prog 42 #[.agg #[.int .i64 op, .int .i64 a, .int .i64 b]] w fun e w' => e = .returned (.int .i64 40) ∧ Below w.heap.size w w') := Lib.hid (fun w => by have := refCheck op a b h0 h1 h2 h3 w; rw [h] at this; exact this)
  have HB0 := Lib.hid (below_alloc (Below.refl w.heap.size w) (.cells #[.int .i64 op, .int .i64 a, .int .i64 b] 23))
  clear h h0 h1 h2 h3
  go_enter Tryz.func25, Tryz.ntmps25
  go_wp2_with (go_at_call 42; (with_reducible refine (HC.out _).mono ?_); rintro e w1 ⟨rfl, hb⟩; have HB := Lib.hid (below_step HB0.out hb); clear hb)
  go_ret
  exact ⟨rfl, HB.out⟩
set_option maxRecDepth 100000 in
set_option maxHeartbeats 4000000 in
theorem show_ok (op a b : Int) (h : okB op a b = true) (h0 : -9223372036854775808 ≤ a) (h1 : a ≤ 9223372036854775807) (h2 : -9223372036854775808 ≤ b) (h3 : b ≤ 9223372036854775807) (w : World) : Calls Tryz.prog 25 #[.agg #[.int .i64 op, .int .i64 a, .int .i64 b]] w fun e w' => e = .returned (.string ⟨(showX op a b).toArray⟩) ∧ Below w.heap.size w w' := by
  have HC : Hid (∀ w, Calls Tryz.prog 42 #[.agg #[.int .i64 op, .int .i64 a, .int .i64 b]] w fun e w' => e = .returned (.int .i64 0) ∧ Below w.heap.size w w') := Lib.hid (fun w => by have := refCheck op a b h0 h1 h2 h3 w; rw [h] at this; exact this)
  have HK := Lib.hid (refKinds op)
  have g := ok_op h
  obtain ⟨k, rfl⟩ := Int.eq_ofNat_of_zero_le g.1
  have hk : k < 30 := by omega
  have hkI : (k : Int) < 30 := by omega
  have HN := Lib.hid (refNames k hk)
  have hnm : nameL (k : Int) = (rowOf k).1 := nameL_at g.1 g.2.1
  have hnl := nameL_le (k : Int)
  rw [← hnm] at HN
  have HW1 : Hid (∀ W, Calls Tryz.prog 47 #[.int .i64 (ka k), .int .i64 a] W fun e w' => e = .returned (.string ⟨(showK (ka k) a).toArray⟩) ∧ Below W.heap.size W w') := Lib.hid (fun W => refWord _ _ (ka_le _) g.2.2.1 W)
  have HW2 : Hid (∀ W, Calls Tryz.prog 47 #[.int .i64 (kb k), .int .i64 b] W fun e w' => e = .returned (.string ⟨(showK (kb k) b).toArray⟩) ∧ Below W.heap.size W w') := Lib.hid (fun W => refWord _ _ (kb_le _) g.2.2.2 W)
  have hl1 := showK_le (ka k) a g.2.2.1 (ka_le _)
  have hl2 := showK_le (kb k) b g.2.2.2 (kb_le _)
  have HX : Hid (showX k a b = nameL k ++ flatS a b (opsL (ka k) (kb k))) := Lib.hid rfl
  obtain ⟨nm, hnms⟩ : ∃ nm : ByteArray, (⟨(nameL (k : Int)).toArray⟩ : ByteArray) = nm := ⟨_, rfl⟩
  obtain ⟨t1, ht1⟩ : ∃ t1 : ByteArray, (⟨(showK (ka k) a).toArray⟩ : ByteArray) = t1 := ⟨_, rfl⟩
  obtain ⟨t2, ht2⟩ : ∃ t2 : ByteArray, (⟨(showK (kb k) b).toArray⟩ : ByteArray) = t2 := ⟨_, rfl⟩
  have z0 : nm.size ≤ 10 := by rw [← hnms]; exact hnl
  have z1 : t1.size ≤ 21 := by rw [← ht1]; exact hl1
  have z2 : t2.size ≤ 21 := by rw [← ht2]; exact hl2
  rw [ht1] at HW1
  rw [ht2] at HW2
  rw [hnms] at HN
  have HE : Hid ((ka k = 0 → kb k = 0 → (⟨(showX k a b).toArray⟩ : ByteArray) = nm) ∧ (ka k ≠ 0 → kb k = 0 → (⟨(showX k a b).toArray⟩ : ByteArray) = nm ++ ⟨#[32]⟩ ++ t1) ∧ (ka k = 0 → kb k ≠ 0 → (⟨(showX k a b).toArray⟩ : ByteArray) = nm ++ ⟨#[32]⟩ ++ t2) ∧ (ka k ≠ 0 → kb k ≠ 0 → (⟨(showX k a b).toArray⟩ : ByteArray) = nm ++ ⟨#[32]⟩ ++ t1 ++ ⟨#[32]⟩ ++ t2)) := Lib.hid (by
    rw [HX.out, ← hnms, ← ht1, ← ht2]
    refine ⟨fun e1 e2 => ?_, fun e1 e2 => ?_, fun e1 e2 => ?_, fun e1 e2 => ?_⟩ <;> (apply ByteArray.ext; simp [opsL, e1, e2, flatS, valAt]))
  have ka1 := fun W => run_string_add_sum (P := Tryz.prog) (w := W) nm ⟨#[32]⟩ (by show _ + 1 ≤ _; omega)
  have ka2 := fun W => run_string_add_sum (P := Tryz.prog) (w := W) (nm ++ ⟨#[32]⟩) t1 (by rw [ByteArray.size_append]; show _ + 1 + _ ≤ _; omega)
  have ka3 := fun W => run_string_add_sum (P := Tryz.prog) (w := W) (nm ++ ⟨#[32]⟩ ++ t1) ⟨#[32]⟩ (by rw [ByteArray.size_append, ByteArray.size_append]; show _ + 1 + _ + 1 ≤ _; omega)
  have ka4 := fun W => run_string_add_sum (P := Tryz.prog) (w := W) (nm ++ ⟨#[32]⟩ ++ t1 ++ ⟨#[32]⟩) t2 (by rw [ByteArray.size_append, ByteArray.size_append, ByteArray.size_append]; show _ + 1 + _ + 1 + _ ≤ _; omega)
  have ka5 := fun W => run_string_add_sum (P := Tryz.prog) (w := W) (nm ++ ⟨#[32]⟩) t2 (by rw [ByteArray.size_append]; show _ + 1 + _ ≤ _; omega)
  have hx0 := World.alloc_heap_new w (.cells #[.int .i64 k, .int .i64 a, .int .i64 b] 23)
  have HB0 := Lib.hid (below_alloc (Below.refl w.heap.size w) (.cells #[.int .i64 k, .int .i64 a, .int .i64 b] 23))
  have hz0 : (w.alloc (.cells #[.int .i64 k, .int .i64 a, .int .i64 b] 23)).heap.size = w.heap.size + 1 := by simp
  have HX0 := Lib.hid hx0
  have HZ0 := Lib.hid hz0
  clear hx0 hz0 h g h0 h1 h2 h3 hk hnm hnl hl1 hl2 hnms ht1 ht2 z0 z1 z2
  generalize showX k a b = sx at *
  clear HX
  go_enter Tryz.func25, Tryz.ntmps25
  go_wp2_with fail
  generalize w.alloc (.cells #[.int .i64 k, .int .i64 a, .int .i64 b] 23) = w0 at *
  have HQ : Hid (∀ W, Below w0.heap.size w0 W → W.cell? ⟨w.heap.size, 0, none⟩ = some (.int .i64 k) ∧ W.cell? ⟨w.heap.size, 1, none⟩ = some (.int .i64 a) ∧ W.cell? ⟨w.heap.size, 2, none⟩ = some (.int .i64 b)) := Lib.hid (fun W hW => by
    have h := (hW.block _ (blk_lt HX0.out)).trans HX0.out
    exact ⟨blk_cell h 0, blk_cell h 1, blk_cell h 2⟩)
  refine (HC.out _).mono ?_
  rintro e w1 ⟨rfl, hb1⟩
  obtain ⟨x0, x1, x2⟩ := HQ.out _ hb1
  have HL := Lib.hid hb1
  clear hb1
  go_wp2_with fail
  refine (HK.out _).mono ?_
  rintro e w2 ⟨rfl, hb2⟩
  have HL2 := Lib.hid (below_step HL.out hb2)
  clear x0 x1 x2 hb2 HL
  go_wp2
  have HW := Lib.hid (below_drew HL2.out)
  refine start_ (S := fun W' => W'.cell? ⟨w.heap.size, 0, none⟩ = some (.int .i64 k)) (ds := []) #[false, false, false, false, false, false] (by kernel_rfl) rfl rfl (HQ.out _ HW.out).1 (fun hHeld => ?_)
  refine pure_ (i := 1) (N := some 16) (v := ?_) (a' := ?_) #[false, true, false, false, false, false] rfl rfl (by kernel_rfl) (fun _ _ _ h => h) (Or.inl ⟨by rfl, ?_⟩) ?_ ?_
  rotate_left
  · intro w'
    go_simp
    with_reducible rfl
  rotate_left
  · simp only [Act.put, List.setIfInBounds_toArray, List.set_cons_zero, List.set_cons_succ]
    rfl
  refine take_ (i := 2) (N := some 17) (v := ?_) (a' := ?_) #[false, true, true, false, false, false] rfl rfl (by kernel_rfl) (fun _ _ _ h => h) (Or.inl ⟨by rfl, ?_⟩) hHeld ?_ ?_
  rotate_left
  · rintro w' h0
    go_simp
    with_reducible rfl
  rotate_left
  · simp only [Act.put, List.setIfInBounds_toArray, List.set_cons_zero, List.set_cons_succ]
    rfl
  refine one_ (i := 0) (N := some 15) #[true, true, true, false, false, false] rfl rfl (by kernel_rfl) (by decide) (fun K hK => ?_)
  refine goes_ Tryz.func41 (by kernel_rfl) rfl #[] (by rfl) rfl rfl (by simp only [List.map_toArray, List.map_nil]) ?_
  with_reducible refine (HN.out _).mono ?_
  rintro e w_ ⟨ad, c, rfl, hcell, hb_⟩
  refine ⟨_, rfl, ?_⟩
  have HW_ := Lib.hid (below_step HW.out hb_)
  clear HW
  have HW := HW_
  clear HW_ hb_
  refine hK.out _ _ (HQ.out _ HW.out).1 (fun hHeld => ?_)
  clear hK K
  refine norm_ (a' := ?_) ?_ ?_
  rotate_left
  · show Act.put _ (some 15) _ = _
    simp only [Act.put, List.setIfInBounds_toArray, List.set_cons_zero, List.set_cons_succ]
    rfl
  refine pure_ (i := 3) (N := some 18) (v := ?_) (a' := ?_) #[true, true, true, true, false, false] rfl rfl (by kernel_rfl) (fun _ _ _ h => h) (Or.inl ⟨by rfl, ?_⟩) ?_ ?_
  rotate_left
  · intro w'
    go_simp
    with_reducible rfl
  rotate_left
  · simp only [Act.put, List.setIfInBounds_toArray, List.set_cons_zero, List.set_cons_succ]
    rfl
  refine one_ (i := 4) (N := some 19) #[true, true, true, true, true, false] rfl rfl (by kernel_rfl) (by decide) (fun K hK => ?_)
  refine value_ (v := .string nm) (w1 := w_) (by rfl) rfl (by go_simp) ?_
  refine hK.out _ _ hHeld (fun hHeld => ?_)
  clear hK K
  refine norm_ (a' := ?_) ?_ ?_
  rotate_left
  · show Act.put _ (some 19) _ = _
    simp only [Act.put, List.setIfInBounds_toArray, List.set_cons_zero, List.set_cons_succ]
    rfl
  refine pure_ (i := 5) (N := some 5) (v := ?_) (a' := ?_) #[true, true, true, true, true, true] rfl rfl (by kernel_rfl) (fun _ _ _ h => h) (Or.inl ⟨by rfl, ?_⟩) ?_ ?_
  rotate_left
  · intro w'
    go_simp
    with_reducible rfl
  rotate_left
  · simp only [Act.put, List.setIfInBounds_toArray, List.set_cons_zero, List.set_cons_succ]
    rfl
  refine done_ (by kernel_rfl) ?_
  have HFIN : Hid (∀ W, Below w0.heap.size w0 W → Below w.heap.size w W) := Lib.hid (fun W hW => HB0.out.trans (hW.mono (by rw [HZ0.out]; omega)))
  clear HB0 HZ0 HX0 HL2 HN HC HK hHeld hcell hkI
  by_cases e1 : ka k = 0
  · have q1 : ¬ (0 : Int) < (ka k : Int) := by omega
    by_cases e2 : kb k = 0
    · have q2 : ¬ (0 : Int) < (kb k : Int) := by omega
      have HEE := Lib.hid (HE.out.1 e1 e2)
      clear e1 e2 HE
      go_wp2
      go_ret
      exact ⟨by rw [HEE.out]; rfl, HFIN.out _ HW.out⟩
    · have q2 : (0 : Int) < (kb k : Int) := by omega
      have HEE := Lib.hid (HE.out.2.2.1 e1 e2)
      clear e1 e2 HE
      obtain ⟨x0, x1, x2⟩ := HQ.out _ HW.out
      go_wp2_with (go_at_call 47; (with_reducible refine (HW2.out _).mono ?_); rintro e w7 ⟨rfl, hb⟩; have HW7 := Lib.hid (below_step HW.out hb); clear hb)
      go_ret
      exact ⟨by rw [HEE.out]; rfl, HFIN.out _ HW7.out⟩
  · have q1 : (0 : Int) < (ka k : Int) := by omega
    by_cases e2 : kb k = 0
    · have q2 : ¬ (0 : Int) < (kb k : Int) := by omega
      have HEE := Lib.hid (HE.out.2.1 e1 e2)
      clear e1 e2 HE
      obtain ⟨x0, x1, x2⟩ := HQ.out _ HW.out
      go_wp2_with (go_at_call 47; (with_reducible refine (HW1.out _).mono ?_); rintro e w7 ⟨rfl, hb⟩; have HW7 := Lib.hid (below_step HW.out hb); clear hb)
      go_ret
      exact ⟨by rw [HEE.out]; rfl, HFIN.out _ HW7.out⟩
    · have q2 : (0 : Int) < (kb k : Int) := by omega
      have HEE := Lib.hid (HE.out.2.2.2 e1 e2)
      clear e1 e2 HE
      obtain ⟨x0, x1, x2⟩ := HQ.out _ HW.out
      go_wp2_with fail
      refine (HW1.out _).mono ?_
      rintro e w7 ⟨rfl, hb⟩
      have HW7 := Lib.hid (below_step HW.out hb)
      clear hb x0 x1 x2
      obtain ⟨x0, x1, x2⟩ := HQ.out _ HW7.out
      go_wp2_with fail
      refine (HW2.out _).mono ?_
      rintro e w8 ⟨rfl, hb⟩
      have HW8 := Lib.hid (below_step HW7.out hb)
      clear hb
      go_wp2
      go_ret
      exact ⟨by rw [HEE.out]; rfl, HFIN.out _ HW8.out⟩
theorem refShow (op a b : Int) (h0 : -9223372036854775808 ≤ a) (h1 : a ≤ 9223372036854775807) (h2 : -9223372036854775808 ≤ b) (h3 : b ≤ 9223372036854775807) (w : World) : Calls Tryz.prog 25 #[.agg #[.int .i64 op, .int .i64 a, .int .i64 b]] w fun e w' => e = .returned (.string ⟨(showW op a b).toArray⟩) ∧ Below w.heap.size w w' := by
  unfold showW
  cases h : okB op a b
  · exact show_bad op a b h h0 h1 h2 h3 w
  · exact show_ok op a b h h0 h1 h2 h3 w
end Go.Proofs.YtamagdnlicnefaaGreatDoor
