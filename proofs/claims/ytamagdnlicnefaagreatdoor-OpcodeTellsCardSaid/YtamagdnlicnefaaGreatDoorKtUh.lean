/- Opcode: the document's Read. -/
import Derived.Test.YtamagdnlicnefaaGreatDoorKtSd
import Derived.Test.YtamagdnlicnefaaGreatDoorKtUg
namespace Go.Proofs.YtamagdnlicnefaaGreatDoor
open Go.RowKit Go.Shelf Go.Proofs.YtamagdnlicnefaaGreatDoorW.PrintWords Go.Proofs.YtamagdnlicnefaaGreatDoorW.PrintLast Go.Proofs.YtamagdnlicnefaaGreatDoorW.PrintMore
open Go.Proofs.YtamagdnlicnefaaGreatDoor.PRef

theorem refWords (s : ByteArray) (hs : s.size ≤ 1000) (w : World) : Calls Tryz.prog 45 #[.string s] w fun e w' => ∃ ad N c, e = .returned (.slice (some ad) N c) ∧ N = (Lib.split s.data.toList [32]).length ∧ N ≤ c ∧ N ≤ 2000 ∧ Below w.heap.size w w' ∧
    ∀ W, Below w'.heap.size w' W → ∀ i : Nat, i < N → ∃ p : ByteArray, W.cell? (ad.add i) = some (.string p) ∧ (Lib.split s.data.toList [32])[i]? = some p.data.toList := by
  obtain ⟨P, h1, h2⟩ := words_f s hs
  refine (backstayref04_words.calls 1010 s P w h1).mono ?_
  rintro e w' ⟨v, rfl, hR, hb⟩
  obtain ⟨A, c, rfl, hl, hC⟩ := Kd.R_reads hR
  have hlen : P.length = (Lib.split s.data.toList [32]).length := by rw [← h2, List.length_map]
  have hpos : 0 < P.length := by
    rw [hlen]
    have : Lib.split s.data.toList [32] ≠ [] := by
      unfold Lib.split
      generalize Lib.count s.data.toList [32] = k
      cases k with
      | zero => unfold Lib.splitK; simp
      | succ k => unfold Lib.splitK; split <;> simp
    exact List.length_pos_iff.2 this
  have hle : P.length ≤ 2000 := by
    have h3 := Lib.splitB_length_le ⟨#[32]⟩ 0 (Lib.countB s ⟨#[32]⟩) s
    have h4 := Lib.countB_le ⟨#[32]⟩ (by decide) s.size s (Nat.le_refl _)
    have h5 : (Lib.splitB ⟨#[32]⟩ 0 (Lib.countB s ⟨#[32]⟩) s).map (·.data.toList) = Lib.split s.data.toList [32] := Lib.splitB_data ⟨#[32]⟩ 0 _ s
    have h6 := congrArg List.length h5
    rw [List.length_map] at h6
    omega
  obtain ⟨ad, rfl, _⟩ := Kd.at_string hC 0 (by omega) (by omega)
  refine ⟨ad, P.length, c, rfl, hlen, hl, hle, hb, fun W hW i hi => ?_⟩
  obtain ⟨ad', e, hc⟩ := Kd.at_string (Kd.C_below hC hW) (i : Int) (by omega) (by omega)
  injection e with e
  subst e
  rw [Int.toNat_natCast] at hc
  refine ⟨_, hc, ?_⟩
  rw [← h2, List.getElem?_map]
  have : P[i]? = some (rdOf ByteArray.empty P (i : Int)) := by
    unfold rdOf
    rw [Int.toNat_natCast]
    simp [List.getD, hi]
  rw [this]
  rfl
theorem refOf (s : ByteArray) (w : World) : Calls Tryz.prog 15 #[.string s] w fun e w' => ∃ r c, e = .returned (.tuple #[.int .i64 r, .int .i64 c]) ∧ OfIs s r c ∧ Below w.heap.size w w' := by
  obtain ⟨r, c, h1, h2⟩ := of_f s
  refine (backstayref04_Of.calls 40 s r c w h1).mono ?_
  rintro e w' ⟨rfl, hb⟩
  exact ⟨r, c, rfl, h2, hb⟩
theorem refNum (k : Nat) (hk0 : k ≠ 0) (hk : k ≤ 10) (s : ByteArray) (w : World) : Calls Tryz.prog 46 #[.int .i64 k, .string s] w fun e w' => ∃ v, e = .returned (.int .i64 v) ∧ I64 v ∧ RdI k s v ∧ Below w.heap.size w w' := by
  obtain ⟨v, h1, h2, h3⟩ := number4_f k hk0 hk s
  refine (backstayref04_number.calls 63 k s v w h1).mono ?_
  rintro e w' ⟨rfl, hb⟩
  exact ⟨v, rfl, h2, h3, hb⟩
theorem kb_zero {k : Nat} (hk : k < 30) (h : ka (k : Int) = 0) : kb (k : Int) = 0 := by
  have key : ∀ k : Fin 30, ka (k.val : Int) = 0 → kb (k.val : Int) = 0 := by decide +kernel
  exact key ⟨k, hk⟩ h
set_option maxRecDepth 100000 in
set_option maxHeartbeats 16000000 in
theorem refRead (s : ByteArray) (hs : s.size ≤ 1000) (w : World) : Calls Tryz.prog 20 #[.string s] w (ReadPost w s) := by
  have HWD := Lib.hid (fun W => refWords s hs W)
  have hB0 := below_alloc (Below.refl w.heap.size w) (.cells #[.int .i64 0, .int .i64 0, .int .i64 0] 23)
  have hx0 := World.alloc_heap_new w (.cells #[.int .i64 0, .int .i64 0, .int .i64 0] 23)
  have HB0 := Lib.hid hB0
  have HX0 := Lib.hid hx0
  clear hB0 hx0 hs
  go_enter Tryz.func20, Tryz.ntmps20
  go_wp2_with fail
  refine (HWD.out _).mono ?_
  rintro e w1 ⟨ad, N, c, rfl, hN, hNc, hN2, hb1, hrow⟩
  have HR1 := Lib.hid ((hb1.block _ (blk_lt HX0.out)).trans HX0.out)
  have HB1 := Lib.hid (below_step HB0.out hb1)
  have HROW := Lib.hid hrow
  have hpos : 1 ≤ N := by
    rcases Nat.eq_zero_or_pos N with h | h
    · exfalso
      rw [h] at hN
      have : Lib.split s.data.toList [32] ≠ [] := by
        unfold Lib.split
        generalize Lib.count s.data.toList [32] = k
        cases k with
        | zero => unfold Lib.splitK; simp
        | succ k => unfold Lib.splitK; split <;> simp
      exact this (List.length_eq_zero_iff.1 hN.symm)
    · exact h
  have HN := Lib.hid hN
  clear hb1 HX0 HB0 HWD hrow hN
  obtain ⟨p0, c0, hp0⟩ := HROW.out w1 (Below.refl _ _) 0 (by omega)
  have c0 : w1.cell? ad = some (.string p0) := c0
  have HP0 := Lib.hid hp0
  clear hp0
  have HOF := Lib.hid (fun W => refOf p0 W)
  go_wp2_with fail
  refine (HOF.out _).mono ?_
  rintro e w2 ⟨r, cc, rfl, hof, hb2⟩
  have HR2 := Lib.hid ((hb2.block _ (blk_lt HR1.out)).trans HR1.out)
  have HB2 := Lib.hid (below_step HB1.out hb2)
  have H12 := Lib.hid hb2
  clear hb2 HR1 HB1 HOF c0
  have hof' := hof
  rcases hof with ⟨k, hk, rfl, rfl, hsk⟩ | ⟨rfl, rfl, hno⟩
  rotate_left
  · have HRI : Hid (ReadIs s 0 0 0 40) := Lib.hid (readIs_of HP0.out hof')
    have y0 := blk_cell HR2.out 0
    have y1 := blk_cell HR2.out 1
    have y2 := blk_cell HR2.out 2
    have f0 := blk_frozen HR2.out 0
    have f1 := blk_frozen HR2.out 1
    have f2 := blk_frozen HR2.out 2
    simp only [List.getElem?_toArray, List.getElem?_cons_zero, List.getElem?_cons_succ] at y0 y1 y2
    obtain ⟨z1, z2, _⟩ := set3f (u0 := .int .i64 0) (u1 := .int .i64 0) (u2 := .int .i64 0) HR2.out HB2.out
    have Z1 := Lib.hid z1
    have Z2 := Lib.hid z2
    clear z1 z2 hof' hno
    go_wp2
    exact bodyPost_ret (results_ct rfl _ _ _ w.heap.size _ rfl (run_loadVar_row _ _ 23 23 _ (0, 0) _ Z1.out Tryz.underlying23 rfl (by kernel_rfl))) rfl ⟨_, _, _, _, rfl, HRI.out, Z2.out⟩
  clear hof'
  have HSK := Lib.hid hsk
  clear hsk
  have hx3 := World.alloc_heap_new w2 (.cells #[.int .i64 k, .int .i64 0, .int .i64 0] 23)
  have hb3 := below_alloc (Below.refl w2.heap.size w2) (.cells #[.int .i64 k, .int .i64 0, .int .i64 0] 23)
  have HX3 := Lib.hid hx3
  have HB3 := Lib.hid hb3
  have HKI := Lib.hid (refKinds k)
  clear hx3 hb3
  go_wp2_with fail
  refine (HKI.out _).mono ?_
  rintro e w4 ⟨rfl, hb4⟩
  have hb24 := below_step HB3.out hb4
  have hxx : XAt w4 w2.heap.size k 0 0 := (hb4.block _ (blk_lt HX3.out)).trans HX3.out
  have HX4 := Lib.hid hxx
  have HR4 := Lib.hid ((hb24.block _ (blk_lt HR2.out)).trans HR2.out)
  have HB4 := Lib.hid (HB2.out.trans (hb24.mono HB2.out.size))
  have H14 := Lib.hid (below_step H12.out hb24)
  have hrx : w.heap.size < w2.heap.size := blk_lt HR2.out
  have h2x : w1.heap.size ≤ w2.heap.size := H12.out.size
  clear hb4 hb24 hxx HX3 HB3 HKI HR2 HB2 H12
  by_cases e1 : ka k = 0
  · have q1 : ¬ (0 : Int) < (ka k : Int) := by omega
    have e2 : kb k = 0 := kb_zero hk e1
    have q2 : ¬ (0 : Int) < (kb k : Int) := by omega
    have HRC : Hid (RdC s k 0 0 (opsL (ka k) (kb k))) := Lib.hid (by rw [e1, e2]; exact RdC.nil s k)
    clear e1 e2
    have HSH := Lib.hid (refShow k 0 0 zero_in.1 zero_in.2 zero_in.1 zero_in.2)
    have HY : Hid ((⟨(showW k 0 0).toArray⟩ : ByteArray) = s → ReadIs s k 0 0 0) := Lib.hid (fun he => readIs_ok rfl hk HSK.out HP0.out he)
    have HNO : Hid ((⟨(showW k 0 0).toArray⟩ : ByteArray) ≠ s → ReadIs s 0 0 0 40) := Lib.hid (fun he => readIs_no rfl hk HSK.out HP0.out HRC.out he)
    generalize (⟨(showW k 0 0).toArray⟩ : ByteArray) = nm at *
    have x0 := blk_cell HX4.out 0
    have x1 := blk_cell HX4.out 1
    have x2 := blk_cell HX4.out 2
    simp only [List.getElem?_toArray, List.getElem?_cons_zero, List.getElem?_cons_succ] at x0 x1 x2
    by_cases he : nm = s
    all_goals
      first
      | (have hq : (nm.toList == s.toList) = true := (same_str2 _ _).2 he
         have HF := Lib.hid (HY.out he))
      | (have hq : (nm.toList == s.toList) = false := by rw [Bool.eq_false_iff, Ne, same_str2]; exact he
         have HF := Lib.hid (HNO.out he))
      clear he HY HNO
      go_wp2_with fail
      refine (HSH.out _).mono ?_
      rintro e wz ⟨rfl, hb⟩
      have k1 := (hb.block _ (blk_lt HR4.out)).trans HR4.out
      have k2 := (hb.block _ (blk_lt HX4.out)).trans HX4.out
      have k4 := HB4.out.trans (hb.mono HB4.out.size)
      clear x0 x1 x2 hb
      have y0 := blk_cell k1 0
      have y1 := blk_cell k1 1
      have y2 := blk_cell k1 2
      have f0 := blk_frozen k1 0
      have f1 := blk_frozen k1 1
      have f2 := blk_frozen k1 2
      have x0 := blk_cell k2 0
      have x1 := blk_cell k2 1
      have x2 := blk_cell k2 2
      simp only [List.getElem?_toArray, List.getElem?_cons_zero, List.getElem?_cons_succ] at y0 y1 y2 x0 x1 x2
      have hne : w2.heap.size ≠ w.heap.size := by omega
    · obtain ⟨z1, z2, z3⟩ := set3f (u0 := .int .i64 k) (u1 := .int .i64 0) (u2 := .int .i64 0) k1 k4
      have Z1 := Lib.hid z1
      have Z2 := Lib.hid z2
      clear z1 z2 z3 k1 k2 k4
      go_wp2
      exact bodyPost_ret (results_ct rfl _ _ _ w.heap.size _ rfl (run_loadVar_row _ _ 23 23 _ (0, 0) _ Z1.out Tryz.underlying23 rfl (by kernel_rfl))) rfl ⟨_, _, _, _, rfl, HF.out, Z2.out⟩
    · obtain ⟨z1, z2, z3⟩ := set3f (u0 := .int .i64 0) (u1 := .int .i64 0) (u2 := .int .i64 0) k1 k4
      have Z1 := Lib.hid z1
      have Z2 := Lib.hid z2
      clear z1 z2 z3 k1 k2 k4
      go_wp2
      exact bodyPost_ret (results_ct rfl _ _ _ w.heap.size _ rfl (run_loadVar_row _ _ 23 23 _ (0, 0) _ Z1.out Tryz.underlying23 rfl (by kernel_rfl))) rfl ⟨_, _, _, _, rfl, HF.out, Z2.out⟩
  have q1 : (0 : Int) < (ka k : Int) := by omega
  have hpre : [] ++ [(ka k, 1)] <+: opsL (ka k) (kb k) := by
    unfold opsL; rw [if_neg e1]; exact ⟨_, rfl⟩
  by_cases e3 : 1 < N
  rotate_left
  · have q3 : ¬ (1 : Int) < (N : Int) := by omega
    have q4 : ¬ (2 : Int) < (N : Int) := by omega
    have HRC : Hid (RdC s k 0 0 (opsL (ka k) (kb k))) := Lib.hid (by
      have h1 : RdC s k 0 0 ([] ++ [(ka k, 1)]) := RdC.miss hpre (by have := HN.out; simp; omega)
      by_cases e2 : kb k = 0
      · have : opsL (ka k) (kb k) = [] ++ [(ka k, 1)] := by rw [e2]; exact opsL_k0 e1
        rw [this]; exact h1
      · have hp2 : [(ka k, 1)] ++ [(kb k, 2)] <+: opsL (ka k) (kb k) := by rw [opsL_kk e1 e2]; exact List.prefix_rfl
        have := RdC.miss (s := s) (A := 0) (B := 0) hp2 (by have := HN.out; simp; omega)
        rw [opsL_kk e1 e2]; exact this)
    by_cases e2 : kb k = 0
    · have q2 : ¬ (0 : Int) < (kb k : Int) := by omega
      clear e1 e2 e3 hpre
      have HSH := Lib.hid (refShow k 0 0 zero_in.1 zero_in.2 zero_in.1 zero_in.2)
      have HY : Hid ((⟨(showW k 0 0).toArray⟩ : ByteArray) = s → ReadIs s k 0 0 0) := Lib.hid (fun he => readIs_ok rfl hk HSK.out HP0.out he)
      have HNO : Hid ((⟨(showW k 0 0).toArray⟩ : ByteArray) ≠ s → ReadIs s 0 0 0 40) := Lib.hid (fun he => readIs_no rfl hk HSK.out HP0.out HRC.out he)
      generalize (⟨(showW k 0 0).toArray⟩ : ByteArray) = nm at *
      have x0 := blk_cell HX4.out 0
      have x1 := blk_cell HX4.out 1
      have x2 := blk_cell HX4.out 2
      simp only [List.getElem?_toArray, List.getElem?_cons_zero, List.getElem?_cons_succ] at x0 x1 x2
      by_cases he : nm = s
      all_goals
        first
        | (have hq : (nm.toList == s.toList) = true := (same_str2 _ _).2 he
           have HF := Lib.hid (HY.out he))
        | (have hq : (nm.toList == s.toList) = false := by rw [Bool.eq_false_iff, Ne, same_str2]; exact he
           have HF := Lib.hid (HNO.out he))
        clear he HY HNO
        go_wp2_with fail
        refine (HSH.out _).mono ?_
        rintro e wz ⟨rfl, hb⟩
        have k1 := (hb.block _ (blk_lt HR4.out)).trans HR4.out
        have k2 := (hb.block _ (blk_lt HX4.out)).trans HX4.out
        have k4 := HB4.out.trans (hb.mono HB4.out.size)
        clear x0 x1 x2 hb
        have y0 := blk_cell k1 0
        have y1 := blk_cell k1 1
        have y2 := blk_cell k1 2
        have f0 := blk_frozen k1 0
        have f1 := blk_frozen k1 1
        have f2 := blk_frozen k1 2
        have x0 := blk_cell k2 0
        have x1 := blk_cell k2 1
        have x2 := blk_cell k2 2
        simp only [List.getElem?_toArray, List.getElem?_cons_zero, List.getElem?_cons_succ] at y0 y1 y2 x0 x1 x2
        have hne : w2.heap.size ≠ w.heap.size := by omega
      · obtain ⟨z1, z2, z3⟩ := set3f (u0 := .int .i64 k) (u1 := .int .i64 0) (u2 := .int .i64 0) k1 k4
        have Z1 := Lib.hid z1
        have Z2 := Lib.hid z2
        clear z1 z2 z3 k1 k2 k4
        go_wp2
        exact bodyPost_ret (results_ct rfl _ _ _ w.heap.size _ rfl (run_loadVar_row _ _ 23 23 _ (0, 0) _ Z1.out Tryz.underlying23 rfl (by kernel_rfl))) rfl ⟨_, _, _, _, rfl, HF.out, Z2.out⟩
      · obtain ⟨z1, z2, z3⟩ := set3f (u0 := .int .i64 0) (u1 := .int .i64 0) (u2 := .int .i64 0) k1 k4
        have Z1 := Lib.hid z1
        have Z2 := Lib.hid z2
        clear z1 z2 z3 k1 k2 k4
        go_wp2
        exact bodyPost_ret (results_ct rfl _ _ _ w.heap.size _ rfl (run_loadVar_row _ _ 23 23 _ (0, 0) _ Z1.out Tryz.underlying23 rfl (by kernel_rfl))) rfl ⟨_, _, _, _, rfl, HF.out, Z2.out⟩
    · have q2 : (0 : Int) < (kb k : Int) := by omega
      clear e1 e2 e3 hpre
      have HSH := Lib.hid (refShow k 0 0 zero_in.1 zero_in.2 zero_in.1 zero_in.2)
      have HY : Hid ((⟨(showW k 0 0).toArray⟩ : ByteArray) = s → ReadIs s k 0 0 0) := Lib.hid (fun he => readIs_ok rfl hk HSK.out HP0.out he)
      have HNO : Hid ((⟨(showW k 0 0).toArray⟩ : ByteArray) ≠ s → ReadIs s 0 0 0 40) := Lib.hid (fun he => readIs_no rfl hk HSK.out HP0.out HRC.out he)
      generalize (⟨(showW k 0 0).toArray⟩ : ByteArray) = nm at *
      have x0 := blk_cell HX4.out 0
      have x1 := blk_cell HX4.out 1
      have x2 := blk_cell HX4.out 2
      simp only [List.getElem?_toArray, List.getElem?_cons_zero, List.getElem?_cons_succ] at x0 x1 x2
      by_cases he : nm = s
      all_goals
        first
        | (have hq : (nm.toList == s.toList) = true := (same_str2 _ _).2 he
           have HF := Lib.hid (HY.out he))
        | (have hq : (nm.toList == s.toList) = false := by rw [Bool.eq_false_iff, Ne, same_str2]; exact he
           have HF := Lib.hid (HNO.out he))
        clear he HY HNO
        go_wp2_with fail
        refine (HSH.out _).mono ?_
        rintro e wz ⟨rfl, hb⟩
        have k1 := (hb.block _ (blk_lt HR4.out)).trans HR4.out
        have k2 := (hb.block _ (blk_lt HX4.out)).trans HX4.out
        have k4 := HB4.out.trans (hb.mono HB4.out.size)
        clear x0 x1 x2 hb
        have y0 := blk_cell k1 0
        have y1 := blk_cell k1 1
        have y2 := blk_cell k1 2
        have f0 := blk_frozen k1 0
        have f1 := blk_frozen k1 1
        have f2 := blk_frozen k1 2
        have x0 := blk_cell k2 0
        have x1 := blk_cell k2 1
        have x2 := blk_cell k2 2
        simp only [List.getElem?_toArray, List.getElem?_cons_zero, List.getElem?_cons_succ] at y0 y1 y2 x0 x1 x2
        have hne : w2.heap.size ≠ w.heap.size := by omega
      · obtain ⟨z1, z2, z3⟩ := set3f (u0 := .int .i64 k) (u1 := .int .i64 0) (u2 := .int .i64 0) k1 k4
        have Z1 := Lib.hid z1
        have Z2 := Lib.hid z2
        clear z1 z2 z3 k1 k2 k4
        go_wp2
        exact bodyPost_ret (results_ct rfl _ _ _ w.heap.size _ rfl (run_loadVar_row _ _ 23 23 _ (0, 0) _ Z1.out Tryz.underlying23 rfl (by kernel_rfl))) rfl ⟨_, _, _, _, rfl, HF.out, Z2.out⟩
      · obtain ⟨z1, z2, z3⟩ := set3f (u0 := .int .i64 0) (u1 := .int .i64 0) (u2 := .int .i64 0) k1 k4
        have Z1 := Lib.hid z1
        have Z2 := Lib.hid z2
        clear z1 z2 z3 k1 k2 k4
        go_wp2
        exact bodyPost_ret (results_ct rfl _ _ _ w.heap.size _ rfl (run_loadVar_row _ _ 23 23 _ (0, 0) _ Z1.out Tryz.underlying23 rfl (by kernel_rfl))) rfl ⟨_, _, _, _, rfl, HF.out, Z2.out⟩
  have q3 : (1 : Int) < (N : Int) := by omega
  obtain ⟨p1, c1, hp1⟩ := HROW.out w4 H14.out 1 e3
  simp only [Addr.add] at c1
  rw [if_neg (by decide)] at c1
  have HN1 := Lib.hid (refNum (ka k) e1 (ka_le _) p1)
  have HP1 := Lib.hid hp1
  clear hp1
  go_wp2_with fail
  refine (HN1.out _).mono ?_
  rintro e w5 ⟨A, rfl, hA, hrd, hb5⟩
  have HRC1 : Hid (RdC s k A 0 [(ka k, 1)]) := Lib.hid ((RdC.nil s k).hit hpre HP1.out hrd)
  have HIA := Lib.hid hA
  have hx5 := (hb5.block _ (blk_lt HX4.out)).trans HX4.out
  have hr5 := (hb5.block _ (blk_lt HR4.out)).trans HR4.out
  have v1 := blk_cell hx5 1
  have g1 := blk_frozen hx5 1
  simp only [List.getElem?_toArray, List.getElem?_cons_zero, List.getElem?_cons_succ] at v1
  have hx6 := blk_set hx5 1 (.int .i64 A)
  simp only [List.setIfInBounds_toArray, List.set_cons_zero, List.set_cons_succ] at hx6
  have hf6 : Fr (fun i => i = w2.heap.size) w5 (w5.setCell ⟨w2.heap.size, 1, none⟩ (.int .i64 A)) := Fr.set (S := fun i => i = w2.heap.size) (Fr.refl _ _) _ _ (fun _ => rfl)
  have HX6 := Lib.hid hx6
  have HR6 := Lib.hid (hf6.at hr5 (by omega))
  have hb45 := HB4.out.trans (hb5.mono HB4.out.size)
  have HB6 := Lib.hid (hb45.trans (hf6.below hb45.size (fun i hi e => by omega)))
  have h15 := below_step H14.out hb5
  have H16 := Lib.hid (h15.trans (hf6.below h15.size (fun i hi e => by omega)))
  clear hx5 hr5 hx6 hf6 hb45 h15 hb5 hrd hA HX4 HR4 HB4 H14 HN1 c1 HP1
  go_upto_region 9 with (fail)
  generalize w5.setCell ⟨w2.heap.size, 1, none⟩ (.int .i64 A) = w6 at *
  clear v1 g1
  by_cases e2 : kb k = 0
  · have q2 : ¬ (0 : Int) < (kb k : Int) := by omega
    have HRC : Hid (RdC s k A 0 (opsL (ka k) (kb k))) := Lib.hid (by rw [e2, opsL_k0 e1]; exact HRC1.out)
    clear e1 e2 e3 hpre
    have HSH := Lib.hid (refShow k A 0 HIA.out.1 HIA.out.2 zero_in.1 zero_in.2)
    have HY : Hid ((⟨(showW k A 0).toArray⟩ : ByteArray) = s → ReadIs s k A 0 0) := Lib.hid (fun he => readIs_ok rfl hk HSK.out HP0.out he)
    have HNO : Hid ((⟨(showW k A 0).toArray⟩ : ByteArray) ≠ s → ReadIs s 0 0 0 40) := Lib.hid (fun he => readIs_no rfl hk HSK.out HP0.out HRC.out he)
    generalize (⟨(showW k A 0).toArray⟩ : ByteArray) = nm at *
    have x0 := blk_cell HX6.out 0
    have x1 := blk_cell HX6.out 1
    have x2 := blk_cell HX6.out 2
    simp only [List.getElem?_toArray, List.getElem?_cons_zero, List.getElem?_cons_succ] at x0 x1 x2
    by_cases he : nm = s
    all_goals
      first
      | (have hq : (nm.toList == s.toList) = true := (same_str2 _ _).2 he
         have HF := Lib.hid (HY.out he))
      | (have hq : (nm.toList == s.toList) = false := by rw [Bool.eq_false_iff, Ne, same_str2]; exact he
         have HF := Lib.hid (HNO.out he))
      clear he HY HNO
      go_wp2_with fail
      refine (HSH.out _).mono ?_
      rintro e wz ⟨rfl, hb⟩
      have k1 := (hb.block _ (blk_lt HR6.out)).trans HR6.out
      have k2 := (hb.block _ (blk_lt HX6.out)).trans HX6.out
      have k4 := HB6.out.trans (hb.mono HB6.out.size)
      clear x0 x1 x2 hb
      have y0 := blk_cell k1 0
      have y1 := blk_cell k1 1
      have y2 := blk_cell k1 2
      have f0 := blk_frozen k1 0
      have f1 := blk_frozen k1 1
      have f2 := blk_frozen k1 2
      have x0 := blk_cell k2 0
      have x1 := blk_cell k2 1
      have x2 := blk_cell k2 2
      simp only [List.getElem?_toArray, List.getElem?_cons_zero, List.getElem?_cons_succ] at y0 y1 y2 x0 x1 x2
      have hne : w2.heap.size ≠ w.heap.size := by omega
    · obtain ⟨z1, z2, z3⟩ := set3f (u0 := .int .i64 k) (u1 := .int .i64 A) (u2 := .int .i64 0) k1 k4
      have Z1 := Lib.hid z1
      have Z2 := Lib.hid z2
      clear z1 z2 z3 k1 k2 k4
      go_wp2
      exact bodyPost_ret (results_ct rfl _ _ _ w.heap.size _ rfl (run_loadVar_row _ _ 23 23 _ (0, 0) _ Z1.out Tryz.underlying23 rfl (by kernel_rfl))) rfl ⟨_, _, _, _, rfl, HF.out, Z2.out⟩
    · obtain ⟨z1, z2, z3⟩ := set3f (u0 := .int .i64 0) (u1 := .int .i64 0) (u2 := .int .i64 0) k1 k4
      have Z1 := Lib.hid z1
      have Z2 := Lib.hid z2
      clear z1 z2 z3 k1 k2 k4
      go_wp2
      exact bodyPost_ret (results_ct rfl _ _ _ w.heap.size _ rfl (run_loadVar_row _ _ 23 23 _ (0, 0) _ Z1.out Tryz.underlying23 rfl (by kernel_rfl))) rfl ⟨_, _, _, _, rfl, HF.out, Z2.out⟩
  have q2 : (0 : Int) < (kb k : Int) := by omega
  have hp2 : [(ka k, 1)] ++ [(kb k, 2)] <+: opsL (ka k) (kb k) := by rw [opsL_kk e1 e2]; exact List.prefix_rfl
  by_cases e4 : 2 < N
  rotate_left
  · have q4 : ¬ (2 : Int) < (N : Int) := by omega
    have HRC : Hid (RdC s k A 0 (opsL (ka k) (kb k))) := Lib.hid (by
      have := RdC.miss (s := s) (A := A) (B := 0) hp2 (by have := HN.out; simp; omega)
      rw [opsL_kk e1 e2]; exact this)
    clear e1 e2 e3 e4 hpre hp2
    have HSH := Lib.hid (refShow k A 0 HIA.out.1 HIA.out.2 zero_in.1 zero_in.2)
    have HY : Hid ((⟨(showW k A 0).toArray⟩ : ByteArray) = s → ReadIs s k A 0 0) := Lib.hid (fun he => readIs_ok rfl hk HSK.out HP0.out he)
    have HNO : Hid ((⟨(showW k A 0).toArray⟩ : ByteArray) ≠ s → ReadIs s 0 0 0 40) := Lib.hid (fun he => readIs_no rfl hk HSK.out HP0.out HRC.out he)
    generalize (⟨(showW k A 0).toArray⟩ : ByteArray) = nm at *
    have x0 := blk_cell HX6.out 0
    have x1 := blk_cell HX6.out 1
    have x2 := blk_cell HX6.out 2
    simp only [List.getElem?_toArray, List.getElem?_cons_zero, List.getElem?_cons_succ] at x0 x1 x2
    by_cases he : nm = s
    all_goals
      first
      | (have hq : (nm.toList == s.toList) = true := (same_str2 _ _).2 he
         have HF := Lib.hid (HY.out he))
      | (have hq : (nm.toList == s.toList) = false := by rw [Bool.eq_false_iff, Ne, same_str2]; exact he
         have HF := Lib.hid (HNO.out he))
      clear he HY HNO
      go_wp2_with fail
      refine (HSH.out _).mono ?_
      rintro e wz ⟨rfl, hb⟩
      have k1 := (hb.block _ (blk_lt HR6.out)).trans HR6.out
      have k2 := (hb.block _ (blk_lt HX6.out)).trans HX6.out
      have k4 := HB6.out.trans (hb.mono HB6.out.size)
      clear x0 x1 x2 hb
      have y0 := blk_cell k1 0
      have y1 := blk_cell k1 1
      have y2 := blk_cell k1 2
      have f0 := blk_frozen k1 0
      have f1 := blk_frozen k1 1
      have f2 := blk_frozen k1 2
      have x0 := blk_cell k2 0
      have x1 := blk_cell k2 1
      have x2 := blk_cell k2 2
      simp only [List.getElem?_toArray, List.getElem?_cons_zero, List.getElem?_cons_succ] at y0 y1 y2 x0 x1 x2
      have hne : w2.heap.size ≠ w.heap.size := by omega
    · obtain ⟨z1, z2, z3⟩ := set3f (u0 := .int .i64 k) (u1 := .int .i64 A) (u2 := .int .i64 0) k1 k4
      have Z1 := Lib.hid z1
      have Z2 := Lib.hid z2
      clear z1 z2 z3 k1 k2 k4
      go_wp2
      exact bodyPost_ret (results_ct rfl _ _ _ w.heap.size _ rfl (run_loadVar_row _ _ 23 23 _ (0, 0) _ Z1.out Tryz.underlying23 rfl (by kernel_rfl))) rfl ⟨_, _, _, _, rfl, HF.out, Z2.out⟩
    · obtain ⟨z1, z2, z3⟩ := set3f (u0 := .int .i64 0) (u1 := .int .i64 0) (u2 := .int .i64 0) k1 k4
      have Z1 := Lib.hid z1
      have Z2 := Lib.hid z2
      clear z1 z2 z3 k1 k2 k4
      go_wp2
      exact bodyPost_ret (results_ct rfl _ _ _ w.heap.size _ rfl (run_loadVar_row _ _ 23 23 _ (0, 0) _ Z1.out Tryz.underlying23 rfl (by kernel_rfl))) rfl ⟨_, _, _, _, rfl, HF.out, Z2.out⟩
  have q4 : (2 : Int) < (N : Int) := by omega
  obtain ⟨p2, c2, hp2'⟩ := HROW.out _ H16.out 2 e4
  simp only [Addr.add] at c2
  rw [if_neg (by decide)] at c2
  have HN2 := Lib.hid (refNum (kb k) e2 (kb_le _) p2)
  have HP2 := Lib.hid hp2'
  clear hp2'
  go_wp2_with fail
  refine (HN2.out _).mono ?_
  rintro e w7 ⟨B, rfl, hB, hrd, hb7⟩
  have HRC : Hid (RdC s k A B (opsL (ka k) (kb k))) := Lib.hid (by rw [opsL_kk e1 e2]; exact HRC1.out.hit hp2 HP2.out hrd)
  have HIB := Lib.hid hB
  have hx7 := (hb7.block _ (blk_lt HX6.out)).trans HX6.out
  have hr7 := (hb7.block _ (blk_lt HR6.out)).trans HR6.out
  have v1 := blk_cell hx7 2
  have g1 := blk_frozen hx7 2
  simp only [List.getElem?_toArray, List.getElem?_cons_zero, List.getElem?_cons_succ] at v1
  have hx8 := blk_set hx7 2 (.int .i64 B)
  simp only [List.setIfInBounds_toArray, List.set_cons_zero, List.set_cons_succ] at hx8
  have hf8 : Fr (fun i => i = w2.heap.size) w7 (w7.setCell ⟨w2.heap.size, 2, none⟩ (.int .i64 B)) := Fr.set (S := fun i => i = w2.heap.size) (Fr.refl _ _) _ _ (fun _ => rfl)
  have HX8 := Lib.hid hx8
  have HR8 := Lib.hid (hf8.at hr7 (by omega))
  have hb67 := HB6.out.trans (hb7.mono HB6.out.size)
  have HB8 := Lib.hid (hb67.trans (hf8.below hb67.size (fun i hi e => by omega)))
  clear hx7 hr7 hx8 hf8 hb67 hb7 hrd hB HX6 HR6 HB6 H16 HN2 c2 HP2 e1 e2 e3 e4 hpre hp2
  go_upto_region 11 with (fail)
  generalize w7.setCell ⟨w2.heap.size, 2, none⟩ (.int .i64 B) = w8 at *
  clear v1 g1
  have HSH := Lib.hid (refShow k A B HIA.out.1 HIA.out.2 HIB.out.1 HIB.out.2)
  have HY : Hid ((⟨(showW k A B).toArray⟩ : ByteArray) = s → ReadIs s k A B 0) := Lib.hid (fun he => readIs_ok rfl hk HSK.out HP0.out he)
  have HNO : Hid ((⟨(showW k A B).toArray⟩ : ByteArray) ≠ s → ReadIs s 0 0 0 40) := Lib.hid (fun he => readIs_no rfl hk HSK.out HP0.out HRC.out he)
  generalize (⟨(showW k A B).toArray⟩ : ByteArray) = nm at *
  have x0 := blk_cell HX8.out 0
  have x1 := blk_cell HX8.out 1
  have x2 := blk_cell HX8.out 2
  simp only [List.getElem?_toArray, List.getElem?_cons_zero, List.getElem?_cons_succ] at x0 x1 x2
  by_cases he : nm = s
  all_goals
    first
    | (have hq : (nm.toList == s.toList) = true := (same_str2 _ _).2 he
       have HF := Lib.hid (HY.out he))
    | (have hq : (nm.toList == s.toList) = false := by rw [Bool.eq_false_iff, Ne, same_str2]; exact he
       have HF := Lib.hid (HNO.out he))
    clear he HY HNO
    go_wp2_with fail
    refine (HSH.out _).mono ?_
    rintro e wz ⟨rfl, hb⟩
    have k1 := (hb.block _ (blk_lt HR8.out)).trans HR8.out
    have k2 := (hb.block _ (blk_lt HX8.out)).trans HX8.out
    have k4 := HB8.out.trans (hb.mono HB8.out.size)
    clear x0 x1 x2 hb
    have y0 := blk_cell k1 0
    have y1 := blk_cell k1 1
    have y2 := blk_cell k1 2
    have f0 := blk_frozen k1 0
    have f1 := blk_frozen k1 1
    have f2 := blk_frozen k1 2
    have x0 := blk_cell k2 0
    have x1 := blk_cell k2 1
    have x2 := blk_cell k2 2
    simp only [List.getElem?_toArray, List.getElem?_cons_zero, List.getElem?_cons_succ] at y0 y1 y2 x0 x1 x2
    have hne : w2.heap.size ≠ w.heap.size := by omega
  · obtain ⟨z1, z2, z3⟩ := set3f (u0 := .int .i64 k) (u1 := .int .i64 A) (u2 := .int .i64 B) k1 k4
    have Z1 := Lib.hid z1
    have Z2 := Lib.hid z2
    clear z1 z2 z3 k1 k2 k4
    go_wp2
    exact bodyPost_ret (results_ct rfl _ _ _ w.heap.size _ rfl (run_loadVar_row _ _ 23 23 _ (0, 0) _ Z1.out Tryz.underlying23 rfl (by kernel_rfl))) rfl ⟨_, _, _, _, rfl, HF.out, Z2.out⟩
  · obtain ⟨z1, z2, z3⟩ := set3f (u0 := .int .i64 0) (u1 := .int .i64 0) (u2 := .int .i64 0) k1 k4
    have Z1 := Lib.hid z1
    have Z2 := Lib.hid z2
    clear z1 z2 z3 k1 k2 k4
    go_wp2
    exact bodyPost_ret (results_ct rfl _ _ _ w.heap.size _ rfl (run_loadVar_row _ _ 23 23 _ (0, 0) _ Z1.out Tryz.underlying23 rfl (by kernel_rfl))) rfl ⟨_, _, _, _, rfl, HF.out, Z2.out⟩
end Go.Proofs.YtamagdnlicnefaaGreatDoor
