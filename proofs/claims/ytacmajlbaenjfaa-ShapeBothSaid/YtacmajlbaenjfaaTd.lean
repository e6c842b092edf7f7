/- ShapeBack's walk. -/
import Derived.Test.YtacmajlbaenjfaaTc
import Derived.Test.YtacmajlbaenjfaaTb
import Derived.Test.YtacmajlbaenjfaaSqa
namespace Go.Proofs.Ytacmajlbaenjfaa
open Go.RowKit Go.Shelf Go.Proofs.YtacmajlbaenjfaaW.PrintWords Go.Proofs.YtacmajlbaenjfaaW.PrintLast Go.Proofs.YtacmajlbaenjfaaW.PrintMore
open Go.Proofs.Ytacmajlbaenjfaa.PRef

theorem encI_small : ∀ n : Fin 65, ∀ b ∈ encI n.val, 0 ≤ b ∧ b ≤ 255 := by decide +kernel
theorem packL_bytes {xs : List Int} (hk : ∀ x ∈ xs, 1 ≤ x ∧ x ≤ 4) (hl : xs.length ≤ 64) : ∀ b ∈ packL xs, 0 ≤ b ∧ b ≤ 255 := by
  intro b hb
  unfold packL at hb
  rcases List.mem_append.1 hb with h | h
  · exact encI_small ⟨xs.length, by omega⟩ b h
  · exact mem_bytesL hk h
theorem show24k (W : World) (A : Option Addr) (c : Nat) (xs : List Int) (s : ByteArray) (hC : (Kd.int .i64).C W A xs.length xs) (he : (⟨(showSh xs).toArray⟩ : ByteArray) = s) :
    Calls Try.prog 24 #[.slice A xs.length c] W fun e w' => e = .returned (.string s) ∧ Below W.heap.size W w' := by
  have h := Show24_any W A c xs hC
  rwa [he] at h
theorem read18k (W : World) (s : ByteArray) (xs : List Int) (er : Int) (hs : s.size ≤ 1000000) (he : readSh s.data.toList = (xs, er)) :
    Calls Try.prog 18 #[.string s] W fun e w' => ∃ A c, e = .returned (.tuple #[.slice A xs.length c, .int .i64 er]) ∧ w'.ownsRow W.heap.size 3 1 (.slice A xs.length c) xs.length (nums .i64 xs) ∧ Below W.heap.size W w' := by
  have h := Read18_any W s hs
  rw [he] at h
  refine h.mono ?_
  rintro e w' ⟨u, rfl, hu, hb⟩
  obtain ⟨A2, c2, rfl⟩ := own_slice hu
  exact ⟨A2, c2, rfl, hu, hb⟩
theorem dec14 (W : World) (g base : Nat) (v : Value) (bs xs : List Int) (er : Int) (k : Nat) (hR : ReelIs W g base v bs 0) (he : decSh bs 0 = (xs, er, k)) :
    Calls Try.prog 14 #[.pointer (some ⟨g, 0, none⟩)] W fun e w' => ∃ A c, e = .returned (.tuple #[.slice A xs.length c, .int .i64 er]) ∧ w'.ownsRow W.heap.size 3 1 (.slice A xs.length c) xs.length (nums .i64 xs) ∧ ReelIs w' g base v bs k ∧ Fr (fun i => i = g) W w' := by
  have h := Decode14_any W g base v bs 0 hR
  rw [he] at h
  refine h.mono ?_
  rintro e w' ⟨u, rfl, hu, hr, hf⟩
  obtain ⟨A2, c2, rfl⟩ := own_slice hu
  rw [Nat.zero_add] at hr
  exact ⟨A2, c2, rfl, hu, hr, hf⟩
theorem enc11s (W : World) (A : Option Addr) (c : Nat) (xs zs : List Int) (er : Int) (hC : (Kd.int .i64).C W A xs.length xs) (he : encSh xs = (zs, er)) :
    Calls Try.prog 11 #[.slice A xs.length c] W fun e w' => ∃ A2 c2, e = .returned (.tuple #[.slice A2 zs.length c2, .int .i64 er]) ∧ w'.ownsRow W.heap.size 5 1 (.slice A2 zs.length c2) zs.length (nums .u8 zs) ∧ Below W.heap.size W w' :=
  enc11k W A c xs.length xs zs er hC he rfl
theorem str_of (s : ByteArray) {l : List UInt8} (h : l = s.data.toList) : (⟨l.toArray⟩ : ByteArray) = s := by
  subst h
  apply ByteArray.ext
  simp

set_option maxRecDepth 100000 in
set_option maxHeartbeats 8000000 in
theorem back_walk (A : Option Addr) (c : Nat) (xs : List Int) (A1 : Option Addr) (c1 : Nat) (bs : List Int) (s : ByteArray) (w : World) (hC : (Kd.int .i64).C w A xs.length xs) (hc : xs.length ≤ c)
    (hC1 : (Kd.int .u8).C w A1 bs.length bs) (hc1 : bs.length ≤ c1) (hb1 : ∀ b ∈ bs, 0 ≤ b ∧ b ≤ 255) :
    Calls Try.prog 4 #[.slice A xs.length c, .slice A1 bs.length c1, .string s] w fun e w' => e = .returned (.bool true) ∧ Below w.heap.size w w' := by
  have HA := Lib.hid (alive26 w)
  by_cases g1 : xs.length ≤ 100
  case neg =>
    have g1i : (100 : Int) < (xs.length : Int) := by omega
    clear hC hC1 g1
    go_enter Try.func4, Try.ntmps4
    go_wp2_with (go_at_call 26; refine HA.out.mono ?_; rintro e w1 ⟨rfl, hb⟩; have HB := Lib.hid hb; clear hb)
    go_ret
    exact ⟨rfl, HB.out⟩
  case pos =>
  have g1i : ¬ (100 : Int) < (xs.length : Int) := by omega
  by_cases g2 : bs.length ≤ 100
  case neg =>
    have g2i : (100 : Int) < (bs.length : Int) := by omega
    clear hC hC1 g1 g2
    go_enter Try.func4, Try.ntmps4
    go_wp2_with (go_at_call 26; refine HA.out.mono ?_; rintro e w1 ⟨rfl, hb⟩; have HB := Lib.hid hb; clear hb)
    go_ret
    exact ⟨rfl, HB.out⟩
  case pos =>
  have g2i : ¬ (100 : Int) < (bs.length : Int) := by omega
  by_cases g3 : s.size ≤ 100
  case neg =>
    have g3i : (100 : Int) < (s.size : Int) := by omega
    clear hC hC1 g1 g2 g3
    go_enter Try.func4, Try.ntmps4
    go_wp2_with (go_at_call 26; refine HA.out.mono ?_; rintro e w1 ⟨rfl, hb⟩; have HB := Lib.hid hb; clear hb)
    go_ret
    exact ⟨rfl, HB.out⟩
  case pos =>
  have g3i : ¬ (100 : Int) < (s.size : Int) := by omega
  have HX := Lib.hid g1
  have HBL := Lib.hid g2
  have HSS := Lib.hid g3
  have HBY := Lib.hid hb1
  have HIN : Hid (∀ W, Below w.heap.size w W → (Kd.int .i64).C W A xs.length xs ∧ (Kd.int .u8).C W A1 bs.length bs) := Lib.hid (fun W hb => ⟨Kd.C_below hC hb, Kd.C_below hC1 hb⟩)
  have HCC := Lib.hid (And.intro hc hc1)
  clear hC hC1 hc hc1 hb1 g1 g2 g3
  obtain ⟨ys, ed, kd, hdec⟩ : ∃ ys ed kd, decSh bs 0 = (ys, ed, kd) := ⟨_, _, _, rfl⟩
  have hrd := fun (h : ed = 0) => shape_read (bs := bs) HBY.out (by rw [hdec]; exact h)
  rw [hdec] at hrd
  simp only at hrd
  obtain ⟨ts, et, hrs⟩ : ∃ ts et, readSh s.data.toList = (ts, et) := ⟨_, _, rfl⟩
  have hsaid := shape_said (l := s.data.toList)
  rw [hrs] at hsaid
  simp only at hsaid
  have HDec := Lib.hid (fun (W : World) (g base : Nat) (v : Value) (h : ReelIs W g base v bs 0) => dec14 W g base v bs ys ed kd h hdec)
  have HRds := Lib.hid (fun (W : World) => read18k W s ts et (by have := HSS.out; omega) hrs)
  have HRd := Lib.hid hrd
  have HSaid := Lib.hid hsaid
  have HTL := Lib.hid (show ts.length ≤ 16 by have := readSh_len s.data.toList; rw [hrs] at this; exact this)
  clear hrd hsaid hdec hrs
  have W0 := Lib.hid (Below.refl w.heap.size w)
  cases hok : shapeOk xs
  · have he : encSh xs = ([], 60) := by unfold encSh; rw [hok]; rfl
    have HE := Lib.hid he
    clear he hok
    go_enter Try.func4, Try.ntmps4
    go_upto_region 11 with (first | (go_at_call 26; refine HA.out.mono ?_; rintro e w1 ⟨rfl, hb⟩; have HW_ := Lib.hid (below_then W0.out W0.out.size hb); clear W0; have W0 := HW_; clear HW_; clear hb) | (go_at_call 11; (with_reducible refine (enc11s _ A c xs [] 60 (HIN.out _ W0.out).1 HE.out).mono ?_); rintro e w2 ⟨A2, c2, rfl, hu, hb⟩; have HW_ := Lib.hid (below_then W0.out W0.out.size hb); clear W0; have W0 := HW_; clear HW_; clear hu hb))
    go_upto_region 12 with (go_at_call 13; (with_reducible refine (On_any A1 c1 bs _ (HIN.out _ W0.out).2 (by have := HBL.out; omega) HBY.out).mono ?_); rintro e w13 ⟨g2, vg2, rfl, hg, hr, hb⟩; have HG2 := Lib.hid (Nat.le_trans W0.out.size hg); have HR13 := Lib.hid hr; have HW_ := Lib.hid (below_then W0.out W0.out.size hb); clear W0; have W0 := HW_; clear HW_; clear hg hr hb)
    go_upto_region 13 with (go_at_call 14; (with_reducible refine (HDec.out _ _ _ _ HR13.out).mono ?_); rintro e w14 ⟨A14, c14, rfl, hu, hr, hf⟩; have HU14 := Lib.hid (own_CI hu).2.2; have HR14 := Lib.hid hr; have HW_ := Lib.hid (W0.out.trans (hf.below W0.out.size (fun i hi e => absurd hi (by have := HG2.out; omega)))); clear W0; have W0 := HW_; clear HW_ hu hr hf)
    clear HG2
    by_cases he : ed = 0
    · subst he
      obtain ⟨e1, e2⟩ := HRd.out rfl
      have hle := HR14.out.le
      obtain ⟨us, hus⟩ : ∃ us, us = bs.take kd := ⟨_, rfl⟩
      have hep : encSh ys = (us, 0) := by rw [hus, ← e1, ← e2]
      have HEP := Lib.hid hep
      have hln : us.length = kd := by rw [hus, List.length_take]; omega
      have HLN := Lib.hid hln
      have HUS := Lib.hid hus
      clear e1 e2 hep hln hus
      go_upto_region 15 with (go_at_call 11; (with_reducible refine (enc11s _ A14 c14 ys us 0 HU14.out HEP.out).mono ?_); rintro e w15 ⟨A15, c15, rfl, hu, hb⟩; have HU15 := Lib.hid (row_C hu).2.2; have HR15 := Lib.hid (HR14.out.below hb); have HW_ := Lib.hid (below_then W0.out W0.out.size hb); clear W0; have W0 := HW_; clear HW_; clear hu hb)
      rw [HLN.out]
      obtain ⟨ib, hib, hib0, hib1, hib2⟩ := info_parts info5
      have hcut := cut_to (P := Try.prog) 23 5 .i64 Try.underlying23 hib A1 bs.length c1 (kd : Int) (by omega) (by omega) HCC.out.2
      rw [Int.toNat_natCast] at hcut
      have hcv1 : ∀ k, (convert 23 9 (.slice A15 kd c15)).run Try.prog (w15.drewN k) = .ok (.string (strOfNums us)) (w15.drewN k) := fun k => string_read (by have h := HU15.out; rw [HLN.out] at h; exact Kd.C_below h (pw_below_drewN (Below.refl _ _) k))
      have hcv2 : ∀ k, (convert 23 9 (.slice A1 kd c1)).run Try.prog (w15.drewN k) = .ok (.string (strOfNums us)) (w15.drewN k) := fun k => string_read (by have h := Kd.C_take (HIN.out _ (pw_below_drewN W0.out k)).2 hle; rw [← HUS.out, HLN.out] at h; exact h)
      have HAt := Lib.hid (fun k => At_any (w15.drewN k) g2 _ _ _ _ (HR15.out.below (pw_below_drewN (Below.refl _ _) k)))
      clear hle
      go_quiet ((go_at_call 21; with_reducible refine quiet_same (HAt.out _)))
      have HW_ := Lib.hid (pw_below_drewN W0.out nq)
      clear W0 hcv1 hcv2 hcut HAt HR15 HU15 HR14 HU14
      have W0 := HW_
      clear HW_
      generalize w15.drewN nq = w16 at *
      rcases HSaid.out with ⟨rfl, h2⟩ | ⟨rfl, rfl⟩
      · have hst2 := str_of s h2
        have HST2 := Lib.hid hst2
        clear h2 hst2
        go_wp2_with (first | (go_at_call 18; (with_reducible refine (HRds.out _).mono ?_); rintro e w17 ⟨A17, c17, rfl, hu, hb⟩; have HU17 := Lib.hid (own_CI hu).2.2; have HW_ := Lib.hid (below_then W0.out W0.out.size hb); clear W0; have W0 := HW_; clear HW_; clear hu hb) | (go_at_call 24; (with_reducible refine (show24k _ A17 c17 ts s HU17.out HST2.out).mono ?_); rintro e w18 ⟨rfl, hb⟩; have HW_ := Lib.hid (below_then W0.out W0.out.size hb); clear W0; have W0 := HW_; clear HW_; clear hb))
        go_ret
        exact ⟨rfl, W0.out⟩
      · go_wp2_with (go_at_call 18; (with_reducible refine (HRds.out _).mono ?_); rintro e w17 ⟨A17, c17, rfl, hu, hb⟩; have HW_ := Lib.hid (below_then W0.out W0.out.size hb); clear W0; have W0 := HW_; clear HW_; clear hu hb)
        go_ret
        exact ⟨rfl, W0.out⟩
    · have he' : ¬ ed = 0 := he
      rcases HSaid.out with ⟨rfl, h2⟩ | ⟨rfl, rfl⟩
      · have hst2 := str_of s h2
        have HST2 := Lib.hid hst2
        clear h2 hst2
        go_wp2_with (first | (go_at_call 18; (with_reducible refine (HRds.out _).mono ?_); rintro e w17 ⟨A17, c17, rfl, hu, hb⟩; have HU17 := Lib.hid (own_CI hu).2.2; have HW_ := Lib.hid (below_then W0.out W0.out.size hb); clear W0; have W0 := HW_; clear HW_; clear hu hb) | (go_at_call 24; (with_reducible refine (show24k _ A17 c17 ts s HU17.out HST2.out).mono ?_); rintro e w18 ⟨rfl, hb⟩; have HW_ := Lib.hid (below_then W0.out W0.out.size hb); clear W0; have W0 := HW_; clear HW_; clear hb))
        go_ret
        exact ⟨rfl, W0.out⟩
      · go_wp2_with (go_at_call 18; (with_reducible refine (HRds.out _).mono ?_); rintro e w17 ⟨A17, c17, rfl, hu, hb⟩; have HW_ := Lib.hid (below_then W0.out W0.out.size hb); clear W0; have W0 := HW_; clear HW_; clear hu hb)
        go_ret
        exact ⟨rfl, W0.out⟩
  · obtain ⟨zs, hzs⟩ : ∃ zs, (encSh xs).1 = zs := ⟨_, rfl⟩
    obtain ⟨hdb, he0, hzl⟩ := shape_back hok bs
    have htx := shape_text hok
    have hl16 := shapeOk_len hok
    have hzb : ∀ b ∈ zs, 0 ≤ b ∧ b ≤ 255 := by
      have : encSh xs = (packL xs, 0) := by unfold encSh; rw [if_pos hok]
      rw [← hzs, this]
      exact packL_bytes (fun x hx => by have := shapeOk_mem hok x hx; omega) (by omega)
    rw [hzs] at hdb hzl
    have hze : encSh xs = (zs, 0) := by rw [← hzs, ← he0]
    obtain ⟨m, hm⟩ : ∃ m, zs.length = m := ⟨_, rfl⟩
    have hm20 : m ≤ 20 := by omega
    have hmq : (1 : Int) + ((xs.length : Int) + 3) / 4 = (m : Int) := by omega
    have hmq2 : (1 : Int) + ((xs.length : Int) + 3).tdiv 4 = (m : Int) := by rw [Int.tdiv_eq_ediv_of_nonneg (by omega)]; omega
    rw [hm] at hdb
    have HE := Lib.hid hze
    have HDB := Lib.hid hdb
    have HTX := Lib.hid htx
    have HM := Lib.hid hm
    have HZB := Lib.hid hzb
    have hst : (⟨(showSh xs).toArray⟩ : ByteArray).size ≤ 1000000 := by
      show (showSh xs).toArray.size ≤ _
      rw [List.size_toArray]
      unfold showSh
      split
      all_goals first | exact Nat.zero_le _ | (have := textL_len xs; omega)
    have HST := Lib.hid hst
    obtain ⟨st, hstr⟩ : ∃ st : ByteArray, (⟨(showSh xs).toArray⟩ : ByteArray) = st := ⟨_, rfl⟩
    have HSTR := Lib.hid hstr
    have htx2 : readSh st.data.toList = (xs, 0) := by rw [← hstr]; exact htx
    have HTX2 := Lib.hid htx2
    have hsts : st.size ≤ 1000000 := by rw [← hstr]; exact hst
    have HSTS := Lib.hid hsts
    clear hzs hdb he0 hzl htx hl16 hzb hze hm hok hst hstr htx2 hsts
    go_enter Try.func4, Try.ntmps4
    go_upto_region 6 with (first | (go_at_call 26; refine HA.out.mono ?_; rintro e w1 ⟨rfl, hb⟩; have HW_ := Lib.hid (below_then W0.out W0.out.size hb); clear W0; have W0 := HW_; clear HW_; clear hb) | (go_at_call 11; (with_reducible refine (enc11s _ A c xs zs 0 (HIN.out _ W0.out).1 HE.out).mono ?_); rintro e w2 ⟨A2, c2, rfl, hu, hb⟩; have HU := Lib.hid (row_C hu); have HW_ := Lib.hid (below_then W0.out W0.out.size hb); clear W0; have W0 := HW_; clear HW_; clear hu hb))
    go_upto_region 7 with (first | ((with_reducible refine gate_builtin (b := .append) (xs := #[.tmp 48, .tmp 49]) rfl ?_); at_builtin; refine Kd.R_append_rows (Kd.int .u8) (w0 := w2) (Rr := fun x cs => cs = [Value.int .u8 x]) w2.heap.size rfl (.tmp 48) (.tmp 49) 23 5 (.int .u8 0) 1 rfl Try.underlying23 info5 rfl (by decide) (by omega) (.slice (some ⟨w2.heap.size, 0, none⟩) 0 0) [] zs A2 zs.length c2 (fun _ => True) (fun _ => False) rfl rfl (Kd.R_of_own (World.ownsRow_made _ _ 0 (Nat.le_refl _) (by decide) rfl) (fun _ _ => trivial)) (Kd.C_below HU.out.2.2 (below_alloc (Below.refl _ w2) _)) (fun _ _ h => h) (fun _ h => h.elim) (fun _ _ => trivial) (below_alloc (Below.refl _ w2) _) (by simp) (by have := HM.out; simp; omega) ?_; intro v3 w3 hR3 hB3 _ _; have HR3 := Lib.hid hR3; have HS3 := Lib.hid hB3; clear hR3 hB3) | ((with_reducible refine gate_builtin (b := .append) (xs := #[.tmp 50, .tmp 51]) rfl ?_); at_builtin; refine Kd.R_append_rows (Kd.int .u8) (w0 := w2) (Rr := fun x cs => cs = [Value.int .u8 x]) w2.heap.size rfl (.tmp 50) (.tmp 51) 23 5 (.int .u8 0) 1 rfl Try.underlying23 info5 rfl (by decide) (by omega) v3 ([] ++ zs) bs A1 bs.length c1 (fun _ => True) (fun _ => False) rfl rfl HR3.out (Kd.C_below (HIN.out _ W0.out).2 HS3.out) (fun _ _ h => h) (fun _ h => h.elim) (fun _ _ => trivial) HS3.out HS3.out.size (by have := HM.out; have := HBL.out; simp; omega) ?_; intro v4 w4 hR4 hB4 _ _; have hO4 := R_own8 hR4; simp only [List.nil_append] at hO4; obtain ⟨A4, c4, rfl⟩ := own_slice hO4; have HO4 := Lib.hid hO4; have HS4 := Lib.hid hB4; clear hR4 hB4 hO4) | (go_at_call 13; (with_reducible refine (on13k A4 c4 _ (zs ++ bs) _ (row_C HO4.out).2.2 (by have := HM.out; have := HBL.out; rw [List.length_append]; omega) (fun b hb => (List.mem_append.1 hb).elim (HZB.out b) (HBY.out b)) (by first | rfl | (simp; done))).mono ?_); rintro e w5 ⟨g, vg, rfl, hg, hr, hb⟩; have HG := Lib.hid hg; have HR5 := Lib.hid hr; have HS5 := Lib.hid (below_then HS4.out HS4.out.size hb); have HS45 := Lib.hid hb; clear hg hr hb))
    go_upto_region 8 with (go_at_call 14; (with_reducible refine (dec14 _ _ _ _ _ xs 0 m HR5.out HDB.out).mono ?_); rintro e w6 ⟨A6, c6, rfl, hu, hr, hf⟩; have HU6 := Lib.hid (own_CI hu); have HR6 := Lib.hid hr; have HS6 := Lib.hid (HS5.out.trans (hf.below HS5.out.size (fun i hi e => absurd hi (by have := HG.out; have := HS4.out.size; omega)))); clear hu hr hf)
    have HW6 := Lib.hid (below_then W0.out W0.out.size HS6.out)
    go_upto_region 9 with (first | (go_at_call 24; (with_reducible refine (show24k _ A c xs st (HIN.out _ HW6.out).1 HSTR.out).mono ?_); rintro e w7 ⟨rfl, hb⟩; have HR7 := Lib.hid (HR6.out.below hb); have HU7 := Lib.hid (Kd.C_below HU6.out.2.2 hb); have HW7 := Lib.hid (below_then HW6.out HW6.out.size hb); clear hb) | (go_at_call 18; (with_reducible refine (read18k _ st xs 0 HSTS.out HTX2.out).mono ?_); rintro e w8 ⟨A8, c8, rfl, hu, hb⟩; have HV8 := Lib.hid (own_CI hu); have HR8 := Lib.hid (HR7.out.below hb); have HU8 := Lib.hid (Kd.C_below HU7.out hb); have HW8 := Lib.hid (below_then HW7.out HW7.out.size hb); clear hu hb))
    rw [HM.out]
    go_upto_region 11 with (first | (go_at_call 20; (with_reducible refine (ints20 w8 A6 A c6 c xs HU8.out HU6.out.2.1 (HIN.out _ HW8.out).1 HCC.out.1 (by have := HX.out; omega)).mono ?_); rintro e w9 ⟨rfl, hd⟩; have hb := (Drawn0.mk hd).below; have HR9 := Lib.hid (HR8.out.below hb); have HV9 := Lib.hid (Kd.C_below HV8.out.2.2 hb); have HW9 := Lib.hid (below_then HW8.out HW8.out.size hb); clear hd hb) | (go_at_call 21; (with_reducible refine (At_any w9 g _ _ _ m HR9.out).mono ?_); rintro e w10 ⟨rfl, rfl⟩) | (go_at_call 20; (with_reducible refine (ints20 w9 A8 A c8 c xs HV9.out HV8.out.2.1 (HIN.out _ HW9.out).1 HCC.out.1 (by have := HX.out; omega)).mono ?_); rintro e w11 ⟨rfl, hd⟩; have hb := (Drawn0.mk hd).below; have HW11 := Lib.hid (below_then HW9.out HW9.out.size hb); clear W0; have W0 := HW11; clear hd hb))
    clear HW6 HW7 HW8 HW9 HW11 HR5 HR6 HR7 HR8 HR9 HU6 HU7 HU8 HV8 HV9 HS3 HS4 HS5 HS6 HS45 HG HO4 HR3 HU HE HDB HTX HM HZB HST HSTR HTX2 HSTS hmq hmq2 hm20
    go_upto_region 12 with (go_at_call 13; (with_reducible refine (On_any A1 c1 bs _ (HIN.out _ W0.out).2 (by have := HBL.out; omega) HBY.out).mono ?_); rintro e w13 ⟨g2, vg2, rfl, hg, hr, hb⟩; have HG2 := Lib.hid (Nat.le_trans W0.out.size hg); have HR13 := Lib.hid hr; have HW_ := Lib.hid (below_then W0.out W0.out.size hb); clear W0; have W0 := HW_; clear HW_; clear hg hr hb)
    go_upto_region 13 with (go_at_call 14; (with_reducible refine (HDec.out _ _ _ _ HR13.out).mono ?_); rintro e w14 ⟨A14, c14, rfl, hu, hr, hf⟩; have HU14 := Lib.hid (own_CI hu).2.2; have HR14 := Lib.hid hr; have HW_ := Lib.hid (W0.out.trans (hf.below W0.out.size (fun i hi e => absurd hi (by have := HG2.out; omega)))); clear W0; have W0 := HW_; clear HW_ hu hr hf)
    clear HG2
    by_cases he : ed = 0
    · subst he
      obtain ⟨e1, e2⟩ := HRd.out rfl
      have hle := HR14.out.le
      obtain ⟨us, hus⟩ : ∃ us, us = bs.take kd := ⟨_, rfl⟩
      have hep : encSh ys = (us, 0) := by rw [hus, ← e1, ← e2]
      have HEP := Lib.hid hep
      have hln : us.length = kd := by rw [hus, List.length_take]; omega
      have HLN := Lib.hid hln
      have HUS := Lib.hid hus
      clear e1 e2 hep hln hus
      go_upto_region 15 with (go_at_call 11; (with_reducible refine (enc11s _ A14 c14 ys us 0 HU14.out HEP.out).mono ?_); rintro e w15 ⟨A15, c15, rfl, hu, hb⟩; have HU15 := Lib.hid (row_C hu).2.2; have HR15 := Lib.hid (HR14.out.below hb); have HW_ := Lib.hid (below_then W0.out W0.out.size hb); clear W0; have W0 := HW_; clear HW_; clear hu hb)
      rw [HLN.out]
      obtain ⟨ib, hib, hib0, hib1, hib2⟩ := info_parts info5
      have hcut := cut_to (P := Try.prog) 23 5 .i64 Try.underlying23 hib A1 bs.length c1 (kd : Int) (by omega) (by omega) HCC.out.2
      rw [Int.toNat_natCast] at hcut
      have hcv1 : ∀ k, (convert 23 9 (.slice A15 kd c15)).run Try.prog (w15.drewN k) = .ok (.string (strOfNums us)) (w15.drewN k) := fun k => string_read (by have h := HU15.out; rw [HLN.out] at h; exact Kd.C_below h (pw_below_drewN (Below.refl _ _) k))
      have hcv2 : ∀ k, (convert 23 9 (.slice A1 kd c1)).run Try.prog (w15.drewN k) = .ok (.string (strOfNums us)) (w15.drewN k) := fun k => string_read (by have h := Kd.C_take (HIN.out _ (pw_below_drewN W0.out k)).2 hle; rw [← HUS.out, HLN.out] at h; exact h)
      have HAt := Lib.hid (fun k => At_any (w15.drewN k) g2 _ _ _ _ (HR15.out.below (pw_below_drewN (Below.refl _ _) k)))
      clear hle
      go_quiet ((go_at_call 21; with_reducible refine quiet_same (HAt.out _)))
      have HW_ := Lib.hid (pw_below_drewN W0.out nq)
      clear W0 hcv1 hcv2 hcut HAt HR15 HU15 HR14 HU14
      have W0 := HW_
      clear HW_
      generalize w15.drewN nq = w16 at *
      rcases HSaid.out with ⟨rfl, h2⟩ | ⟨rfl, rfl⟩
      · have hst2 := str_of s h2
        have HST2 := Lib.hid hst2
        clear h2 hst2
        go_wp2_with (first | (go_at_call 18; (with_reducible refine (HRds.out _).mono ?_); rintro e w17 ⟨A17, c17, rfl, hu, hb⟩; have HU17 := Lib.hid (own_CI hu).2.2; have HW_ := Lib.hid (below_then W0.out W0.out.size hb); clear W0; have W0 := HW_; clear HW_; clear hu hb) | (go_at_call 24; (with_reducible refine (show24k _ A17 c17 ts s HU17.out HST2.out).mono ?_); rintro e w18 ⟨rfl, hb⟩; have HW_ := Lib.hid (below_then W0.out W0.out.size hb); clear W0; have W0 := HW_; clear HW_; clear hb))
        go_ret
        exact ⟨rfl, W0.out⟩
      · go_wp2_with (go_at_call 18; (with_reducible refine (HRds.out _).mono ?_); rintro e w17 ⟨A17, c17, rfl, hu, hb⟩; have HW_ := Lib.hid (below_then W0.out W0.out.size hb); clear W0; have W0 := HW_; clear HW_; clear hu hb)
        go_ret
        exact ⟨rfl, W0.out⟩
    · have he' : ¬ ed = 0 := he
      rcases HSaid.out with ⟨rfl, h2⟩ | ⟨rfl, rfl⟩
      · have hst2 := str_of s h2
        have HST2 := Lib.hid hst2
        clear h2 hst2
        go_wp2_with (first | (go_at_call 18; (with_reducible refine (HRds.out _).mono ?_); rintro e w17 ⟨A17, c17, rfl, hu, hb⟩; have HU17 := Lib.hid (own_CI hu).2.2; have HW_ := Lib.hid (below_then W0.out W0.out.size hb); clear W0; have W0 := HW_; clear HW_; clear hu hb) | (go_at_call 24; (with_reducible refine (show24k _ A17 c17 ts s HU17.out HST2.out).mono ?_); rintro e w18 ⟨rfl, hb⟩; have HW_ := Lib.hid (below_then W0.out W0.out.size hb); clear W0; have W0 := HW_; clear HW_; clear hb))
        go_ret
        exact ⟨rfl, W0.out⟩
      · go_wp2_with (go_at_call 18; (with_reducible refine (HRds.out _).mono ?_); rintro e w17 ⟨A17, c17, rfl, hu, hb⟩; have HW_ := Lib.hid (below_then W0.out W0.out.size hb); clear W0; have W0 := HW_; clear HW_; clear hu hb)
        go_ret
        exact ⟨rfl, W0.out⟩
end Go.Proofs.Ytacmajlbaenjfaa
