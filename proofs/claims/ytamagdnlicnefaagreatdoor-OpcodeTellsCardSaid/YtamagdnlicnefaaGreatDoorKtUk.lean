/- OpcodeTells' walk. -/
import Derived.Test.YtamagdnlicnefaaGreatDoorKtTf
import Derived.Test.YtamagdnlicnefaaGreatDoorKtUh
namespace Go.Proofs.YtamagdnlicnefaaGreatDoor
open Go.RowKit Go.Shelf Go.Proofs.YtamagdnlicnefaaGreatDoorW.PrintWords Go.Proofs.YtamagdnlicnefaaGreatDoorW.PrintLast Go.Proofs.YtamagdnlicnefaaGreatDoorW.PrintMore
open Go.Proofs.YtamagdnlicnefaaGreatDoor.PRef

theorem refGoes (op a b : Int) (h0 : -9223372036854775808 ≤ a) (h1 : a ≤ 9223372036854775807) (h2 : -9223372036854775808 ≤ b) (h3 : b ≤ 9223372036854775807) (w : World) : Calls Tryz.prog 18 #[.agg #[.int .i64 op, .int .i64 a, .int .i64 b]] w fun e w' => e = .returned (.tuple #[.int .i64 (goesV op a b), .bool (goesB op a b)]) ∧ Below w.heap.size w w' :=
  backstayref04_Goes.calls 20 op a b _ _ w (goes_f op a b h0 h1 h2 h3)
theorem refEnds (op a b : Int) (h0 : -9223372036854775808 ≤ a) (h1 : a ≤ 9223372036854775807) (h2 : -9223372036854775808 ≤ b) (h3 : b ≤ 9223372036854775807) (w : World) : Calls Tryz.prog 23 #[.agg #[.int .i64 op, .int .i64 a, .int .i64 b]] w fun e w' => e = .returned (.bool (endsB op a b)) ∧ Below w.heap.size w w' :=
  backstayref04_Ends.calls 20 op a b _ w (ends_f op a b h0 h1 h2 h3)
theorem refName (op : Int) (w : World) : Calls Tryz.prog 22 #[.int .i64 op] w fun e w' => e = .returned (.string ⟨(nameL op).toArray⟩) ∧ Below w.heap.size w w' :=
  backstayref04_Name.calls op _ w (name_f op)
def EffOwn (w : World) (f : Bool) (tl ll : List Int) (e : Ending) (w' : World) : Prop := ∃ Au cu Av cv, e = .returned (.tuple #[.slice Au tl.length cu, .slice Av ll.length cv, .bool f]) ∧ w'.ownsRow w.heap.size 3 1 (.slice Au tl.length cu) tl.length (nums .i64 tl) ∧ w'.ownsRow w.heap.size 3 1 (.slice Av ll.length cv) ll.length (nums .i64 ll) ∧ Below w.heap.size w w'
theorem eff_own (op a b : Int) (f : Bool) (tl ll : List Int) (hf : fixB op a b = f) (ht : effT true op a b = tl) (hl : effT false op a b = ll) (w : World) (hm : ∃ m, w.cell? ⟨0, 0, none⟩ = some (.int .i64 m)) : Calls Tryz.prog 7 #[.agg #[.int .i64 op, .int .i64 a, .int .i64 b]] w (EffOwn w f tl ll) := by
  refine (Effect_any op a b w hm).mono ?_
  rintro e w' ⟨u, v, rfl, hu, hv, hb⟩
  rw [ht] at hu
  rw [hl] at hv
  obtain ⟨Au, cu, rfl⟩ := own_slice hu
  obtain ⟨Av, cv, rfl⟩ := own_slice hv
  exact ⟨Au, cu, Av, cv, by rw [hf], hu, hv, hb⟩
theorem ref_own (op a b : Int) (f : Bool) (tl ll : List Int) (hf : fixB op a b = f) (ht : effT true op a b = tl) (hl : effT false op a b = ll) (h0 : -9223372036854775808 ≤ a) (h1 : a ≤ 9223372036854775807) (h2 : -9223372036854775808 ≤ b) (h3 : b ≤ 9223372036854775807) (w : World) : Calls Tryz.prog 17 #[.agg #[.int .i64 op, .int .i64 a, .int .i64 b]] w (EffOwn w f tl ll) := by
  have h := effect_f op a b h0 h1 h2 h3
  rw [hf, ht, hl] at h
  refine (backstayref04_Effect.calls 20 op a b tl ll f w h).mono ?_
  rintro e w' ⟨u, v, rfl, hu, hv, hb⟩
  have hu2 := R_own64 hu
  have hv2 := R_own64 hv
  clear hu hv
  obtain ⟨Au, cu, rfl⟩ := own_slice hu2
  obtain ⟨Av, cv, rfl⟩ := own_slice hv2
  exact ⟨Au, cu, Av, cv, rfl, hu2, hv2, hb⟩
theorem i64_at {W : World} {base n c : Nat} {A : Option Addr} {zs : List Int} (h : W.ownsRow base 3 1 (.slice A n c) zs.length (nums .i64 zs)) (j : Nat) (hj : j < zs.length) :
    ∃ g6, A = some ⟨g6, 0, none⟩ ∧ n = zs.length ∧ base ≤ g6 ∧ g6 < W.heap.size ∧ W.cell? ⟨g6, j, none⟩ = some (.int .i64 (zs.getD j 0)) ∧ W.frozen? ⟨g6, j, none⟩ = false := by
  have hC := (IRow.of h).2.2
  obtain ⟨h1, h2⟩ := h
  rcases h2 with ⟨h2, h3⟩ | ⟨g, cap, cur, hv, hg, hh, r1, r2, r3, r4⟩
  · injection h2 with h2 h4
    omega
  · injection hv with hA hn hc
    subst hA
    refine ⟨g, rfl, hn, hg, blk_lt hh, ?_, ?_⟩
    · obtain ⟨ad, e, hc⟩ := Kd.at_int hC (j : Int) (by omega) (by omega)
      injection e with e
      subst e
      rw [Int.toNat_natCast] at hc
      have e2 : (⟨g, 0, none⟩ : Addr).add j = ⟨g, j, none⟩ := by
        unfold Addr.add
        split
        · rename_i h0; rw [h0]
        · simp
      rw [e2] at hc
      exact hc
    · show (W.frozen? ⟨g, j, none⟩) = false
      unfold World.frozen?
      simp [hh]
set_option maxRecDepth 100000 in
set_option maxHeartbeats 16000000 in
theorem tells_walk (n : Int) (op a b : Int) (h0 : -9223372036854775808 ≤ a) (h1 : a ≤ 9223372036854775807) (h2 : -9223372036854775808 ≤ b) (h3 : b ≤ 9223372036854775807) (s : ByteArray) (w : World) (hV : RVars w) :
    Calls Tryz.prog 4 #[.int .i64 n, .agg #[.int .i64 op, .int .i64 a, .int .i64 b], .string s] w fun e w' => e = .returned (.bool true) ∧ Below w.heap.size w w' := by
  have hb0 := below_alloc (Below.refl w.heap.size w) (.cells #[.int .i64 op, .int .i64 a, .int .i64 b] 23)
  have hx0 := World.alloc_heap_new w (.cells #[.int .i64 op, .int .i64 a, .int .i64 b] 23)
  have HW0 := Lib.hid hb0
  have HXX := Lib.hid hx0
  have HV := Lib.hid hV
  clear hb0 hx0 hV
  by_cases hl : s.size ≤ 100
  case neg =>
    have hl2 : (100 : Int) < (s.size : Int) := by omega
    clear hl h0 h1 h2 h3 HV HXX
    go_enter Tryz.func4, Tryz.ntmps4
    go_wp2
    go_ret
    exact ⟨rfl, HW0.out⟩
  case pos =>
  have hl2 : ¬ (100 : Int) < (s.size : Int) := by omega
  obtain ⟨tl, htl⟩ : ∃ tl, effT true op a b = tl := ⟨_, rfl⟩
  obtain ⟨ll, hll⟩ : ∃ ll, effT false op a b = ll := ⟨_, rfl⟩
  obtain ⟨fx, hfx⟩ : ∃ fx, fixB op a b = fx := ⟨_, rfl⟩
  obtain ⟨gv, hgv⟩ : ∃ gv, goesV op a b = gv := ⟨_, rfl⟩
  obtain ⟨gb, hgb⟩ : ∃ gb, goesB op a b = gb := ⟨_, rfl⟩
  obtain ⟨en, hen⟩ : ∃ en, endsB op a b = en := ⟨_, rfl⟩
  obtain ⟨k1, hk1⟩ : ∃ k1 : Int, (ka n : Int) = k1 := ⟨_, rfl⟩
  obtain ⟨k2, hk2⟩ : ∃ k2 : Int, (kb n : Int) = k2 := ⟨_, rfl⟩
  obtain ⟨ns, hns⟩ : ∃ ns : ByteArray, ⟨(nameL n).toArray⟩ = ns := ⟨_, rfl⟩
  obtain ⟨ss, hss⟩ : ∃ ss : ByteArray, ⟨(showW op a b).toArray⟩ = ss := ⟨_, rfl⟩
  have HTL : Hid (tl.length ≤ 2 ∧ ll.length ≤ 2) := Lib.hid ⟨by rw [← htl]; exact eff_len _ _ _ _, by rw [← hll]; exact eff_len _ _ _ _⟩
  have HSZ := Lib.hid hl
  have HEF := Lib.hid (eff_own op a b fx tl ll hfx htl hll)
  have HRF := Lib.hid (ref_own op a b fx tl ll hfx htl hll h0 h1 h2 h3)
  have HG1 := Lib.hid (Goes11_any op a b)
  have HG2 := Lib.hid (refGoes op a b h0 h1 h2 h3)
  rw [hgv, hgb] at HG1 HG2
  have HE1 := Lib.hid (Ends9_any op a b)
  have HE2 := Lib.hid (refEnds op a b h0 h1 h2 h3)
  rw [hen] at HE1 HE2
  have HK1 := Lib.hid (Kinds21_any n)
  have HK2 := Lib.hid (refKinds n)
  rw [hk1, hk2] at HK1 HK2
  have HN1 := Lib.hid (Name25_any n)
  have HN2 := Lib.hid (refName n)
  rw [hns] at HN1 HN2
  have HS1 := Lib.hid (fun W (hT : Tabs W) => Show9_any op a b W hT)
  have HS2 := Lib.hid (refShow op a b h0 h1 h2 h3)
  rw [hss] at HS1 HS2
  clear hl h0 h1 h2 h3 htl hll hfx hgv hgb hen hk1 hk2 hns hss
  go_enter Tryz.func4, Tryz.ntmps4
  go_wp2_with fail
  generalize w.alloc (.cells #[.int .i64 op, .int .i64 a, .int .i64 b] 23) = w0 at *
  have HQ : Hid (∀ W, Below w0.heap.size w0 W → W.cell? ⟨w.heap.size, 0, none⟩ = some (.int .i64 op) ∧ W.cell? ⟨w.heap.size, 1, none⟩ = some (.int .i64 a) ∧ W.cell? ⟨w.heap.size, 2, none⟩ = some (.int .i64 b)) := Lib.hid (fun W hW => by
    have hx := (hW.block _ (blk_lt HXX.out)).trans HXX.out
    exact ⟨blk_cell hx 0, blk_cell hx 1, blk_cell hx 2⟩)
  have HRV : Hid (∀ W, Below w0.heap.size w0 W → RVars W) := Lib.hid (fun W hW => HV.out.below (below_step HW0.out hW))
  have HW := Lib.hid (Below.refl w0.heap.size w0)
  clear HXX HV
  refine (Of40_any s w0).mono ?_
  rintro e w1 ⟨r, c, rfl, hof, hb⟩
  have HW_ := Lib.hid (below_step HW.out hb)
  clear HW
  have HW := HW_
  clear HW_ hb
  have HOF := Lib.hid hof
  clear hof
  go_wp2_with fail
  refine (refOf s w1).mono ?_
  rintro e w2 ⟨r', c', rfl, hof, hb⟩
  obtain ⟨rfl, rfl⟩ := of_uniq HOF.out hof
  have HW_ := Lib.hid (below_step HW.out hb)
  clear HW
  have HW := HW_
  clear HW_ hof HOF hb
  go_wp2_with fail
  refine (HK1.out w2).mono ?_
  rintro e w3 ⟨rfl, hb⟩
  have HW_ := Lib.hid (below_step HW.out hb)
  clear HW
  have HW := HW_
  clear HW_
  clear hb HK1
  go_wp2_with fail
  refine (HK2.out w3).mono ?_
  rintro e w4 ⟨rfl, hb⟩
  have HW_ := Lib.hid (below_step HW.out hb)
  clear HW
  have HW := HW_
  clear HW_
  clear hb HK2
  obtain ⟨x0, x1, x2⟩ := HQ.out _ HW.out
  go_wp2_with fail
  refine (HEF.out w4 (HRV.out _ HW.out).len).mono ?_
  rintro e w5 ⟨Au, cu, Av, cv, rfl, hu, hv, hb⟩
  have HT := Lib.hid hu
  have HTV := Lib.hid hv
  have HS4 := Lib.hid HW.out.size
  have HGB : Hid (∀ g, Au = some ⟨g, 0, none⟩ → g < w5.heap.size) := Lib.hid (fun g h => by subst h; exact (World.ownsRow.lt hu g rfl).2)
  have HW_ := Lib.hid (below_step HW.out hb)
  clear HW
  have HW := HW_
  clear HW_
  clear x0 x1 x2
  clear hu hv hb
  obtain ⟨x0, x1, x2⟩ := HQ.out _ HW.out
  go_wp2_with fail
  refine (HRF.out w5).mono ?_
  rintro e w6 ⟨Aw, cw, Ax, cx, rfl, hu, hv, hb⟩
  have HO := Lib.hid hu
  have HOV := Lib.hid hv
  have HT_ := Lib.hid (pw_own_below HT.out hb)
  clear HT
  have HT := HT_
  clear HT_
  have HTV_ := Lib.hid (pw_own_below HTV.out hb)
  clear HTV
  have HTV := HTV_
  clear HTV_
  have HW_ := Lib.hid (below_step HW.out hb)
  clear HW
  have HW := HW_
  clear HW_
  clear x0 x1 x2
  clear hu hv hb HRF
  obtain ⟨x0, x1, x2⟩ := HQ.out _ HW.out
  go_wp2_with fail
  refine (HG1.out w6).mono ?_
  rintro e w7 ⟨rfl, hb⟩
  have HT_ := Lib.hid (pw_own_below HT.out hb)
  clear HT
  have HT := HT_
  clear HT_
  have HTV_ := Lib.hid (pw_own_below HTV.out hb)
  clear HTV
  have HTV := HTV_
  clear HTV_
  have HO_ := Lib.hid (pw_own_below HO.out hb)
  have HOV_ := Lib.hid (pw_own_below HOV.out hb)
  clear HO HOV
  have HO := HO_
  have HOV := HOV_
  clear HO_ HOV_
  have HW_ := Lib.hid (below_step HW.out hb)
  clear HW
  have HW := HW_
  clear HW_
  clear x0 x1 x2
  clear hb HG1
  obtain ⟨x0, x1, x2⟩ := HQ.out _ HW.out
  go_wp2_with fail
  refine (HG2.out w7).mono ?_
  rintro e w8 ⟨rfl, hb⟩
  have HT_ := Lib.hid (pw_own_below HT.out hb)
  clear HT
  have HT := HT_
  clear HT_
  have HTV_ := Lib.hid (pw_own_below HTV.out hb)
  clear HTV
  have HTV := HTV_
  clear HTV_
  have HO_ := Lib.hid (pw_own_below HO.out hb)
  have HOV_ := Lib.hid (pw_own_below HOV.out hb)
  clear HO HOV
  have HO := HO_
  have HOV := HOV_
  clear HO_ HOV_
  have HW_ := Lib.hid (below_step HW.out hb)
  clear HW
  have HW := HW_
  clear HW_
  clear x0 x1 x2
  clear hb HG2
  go_wp2_with fail
  refine (Read19_any s w8 (by have := HSZ.out; omega) (HRV.out _ HW.out)).mono ?_
  rintro e w9 ⟨yo, ya, yb, yc, rfl, hri, hb⟩
  have HT_ := Lib.hid (pw_own_below HT.out hb)
  clear HT
  have HT := HT_
  clear HT_
  have HTV_ := Lib.hid (pw_own_below HTV.out hb)
  clear HTV
  have HTV := HTV_
  clear HTV_
  have HO_ := Lib.hid (pw_own_below HO.out hb)
  have HOV_ := Lib.hid (pw_own_below HOV.out hb)
  clear HO HOV
  have HO := HO_
  have HOV := HOV_
  clear HO_ HOV_
  have HRI := Lib.hid hri
  have HW_ := Lib.hid (below_step HW.out hb)
  clear HW
  have HW := HW_
  clear HW_
  clear hb hri
  go_wp2_with fail
  have hb := below_alloc (Below.refl w9.heap.size w9) (.cells #[.int .i64 yo, .int .i64 ya, .int .i64 yb] 23)
  have HY := Lib.hid (World.alloc_heap_new w9 (.cells #[.int .i64 yo, .int .i64 ya, .int .i64 yb] 23))
  have HW_ := Lib.hid (below_step HW.out hb)
  clear HW
  have HW := HW_
  clear HW_
  have HT_ := Lib.hid (pw_own_below HT.out hb)
  clear HT
  have HT := HT_
  clear HT_
  have HTV_ := Lib.hid (pw_own_below HTV.out hb)
  clear HTV
  have HTV := HTV_
  clear HTV_
  have HO_ := Lib.hid (pw_own_below HO.out hb)
  have HOV_ := Lib.hid (pw_own_below HOV.out hb)
  clear HO HOV
  have HO := HO_
  have HOV := HOV_
  clear HO_ HOV_
  clear hb
  generalize w9.alloc (.cells #[.int .i64 yo, .int .i64 ya, .int .i64 yb] 23) = w10 at *
  refine (refRead s (by have := HSZ.out; omega) w10).mono ?_
  rintro e w11 ⟨zo, za, zb, zc, rfl, hri, hb⟩
  obtain ⟨rfl, rfl, rfl, rfl⟩ := readIs_uniq HRI.out hri
  have HW_ := Lib.hid (below_step HW.out hb)
  clear HW
  have HW := HW_
  clear HW_
  have HT_ := Lib.hid (pw_own_below HT.out hb)
  clear HT
  have HT := HT_
  clear HT_
  have HTV_ := Lib.hid (pw_own_below HTV.out hb)
  clear HTV
  have HTV := HTV_
  clear HTV_
  have HO_ := Lib.hid (pw_own_below HO.out hb)
  have HOV_ := Lib.hid (pw_own_below HOV.out hb)
  clear HO HOV
  have HO := HO_
  have HOV := HOV_
  clear HO_ HOV_
  have HY_ := Lib.hid ((hb.block _ (blk_lt HY.out)).trans HY.out)
  clear HY
  have HY := HY_
  clear HY_
  clear hb hri HRI
  have hb := below_alloc (Below.refl w11.heap.size w11) (.cells #[.int .i64 yo, .int .i64 ya, .int .i64 yb] 23)
  have HZ := Lib.hid (World.alloc_heap_new w11 (.cells #[.int .i64 yo, .int .i64 ya, .int .i64 yb] 23))
  have HW_ := Lib.hid (below_step HW.out hb)
  clear HW
  have HW := HW_
  clear HW_
  have HT_ := Lib.hid (pw_own_below HT.out hb)
  clear HT
  have HT := HT_
  clear HT_
  have HTV_ := Lib.hid (pw_own_below HTV.out hb)
  clear HTV
  have HTV := HTV_
  clear HTV_
  have HO_ := Lib.hid (pw_own_below HO.out hb)
  have HOV_ := Lib.hid (pw_own_below HOV.out hb)
  clear HO HOV
  have HO := HO_
  have HOV := HOV_
  clear HO_ HOV_
  have HY_ := Lib.hid ((hb.block _ (blk_lt HY.out)).trans HY.out)
  clear HY
  have HY := HY_
  clear HY_
  clear hb
  have q1 : (r != r) = false := bne_self_eq_false r
  have q2 : (c != c) = false := bne_self_eq_false c
  have q3 : (k1 != k1) = false := bne_self_eq_false k1
  have q4 : (k2 != k2) = false := bne_self_eq_false k2
  have q5 : (gv != gv) = false := bne_self_eq_false gv
  have q6 : (gb != gb) = false := bne_self_eq_false gb
  have q7 : (fx != fx) = false := bne_self_eq_false fx
  have q8 : (yc != yc) = false := bne_self_eq_false yc
  have q9 : (yo == yo) = true := beq_self_eq_true yo
  have q10 : (ya == ya) = true := beq_self_eq_true ya
  have q11 : (yb == yb) = true := beq_self_eq_true yb
  go_wp2_with fail
  generalize w11.alloc (.cells #[.int .i64 yo, .int .i64 ya, .int .i64 yb] 23) = w12 at *
  refine (ints_same w12 Au cu Aw cw tl HTL.out.1 (own_IRow HT.out) (own_IRow HO.out)).mono ?_
  rintro e w13 ⟨rfl, hb⟩
  have HW_ := Lib.hid (below_step HW.out hb)
  clear HW
  have HW := HW_
  clear HW_
  have HT_ := Lib.hid (pw_own_below HT.out hb)
  clear HT
  have HT := HT_
  clear HT_
  have HTV_ := Lib.hid (pw_own_below HTV.out hb)
  clear HTV
  have HTV := HTV_
  clear HTV_
  have HO_ := Lib.hid (pw_own_below HO.out hb)
  have HOV_ := Lib.hid (pw_own_below HOV.out hb)
  clear HO HOV
  have HO := HO_
  have HOV := HOV_
  clear HO_ HOV_
  have HY_ := Lib.hid ((hb.block _ (blk_lt HY.out)).trans HY.out)
  clear HY
  have HY := HY_
  clear HY_
  have HZ_ := Lib.hid ((hb.block _ (blk_lt HZ.out)).trans HZ.out)
  clear HZ
  have HZ := HZ_
  clear HZ_
  clear hb
  go_wp2_with fail
  refine (ints_same w13 Av cv Ax cx ll HTL.out.2 (own_IRow HTV.out) (own_IRow HOV.out)).mono ?_
  rintro e w14 ⟨rfl, hb⟩
  have HW_ := Lib.hid (below_step HW.out hb)
  clear HW
  have HW := HW_
  clear HW_
  clear HTV HOV
  have HOV := Lib.hid trivial
  have HT_ := Lib.hid (pw_own_below HT.out hb)
  clear HT
  have HT := HT_
  clear HT_
  have HO_ := Lib.hid (pw_own_below HO.out hb)
  clear HO
  have HO := HO_
  clear HO_
  have HY_ := Lib.hid ((hb.block _ (blk_lt HY.out)).trans HY.out)
  clear HY
  have HY := HY_
  clear HY_
  have HZ_ := Lib.hid ((hb.block _ (blk_lt HZ.out)).trans HZ.out)
  clear HZ
  have HZ := HZ_
  clear HZ_
  clear hb HOV
  have y0 : w14.cell? ⟨w9.heap.size, 0, none⟩ = some (.int .i64 yo) := blk_cell HY.out 0
  have y1 : w14.cell? ⟨w9.heap.size, 1, none⟩ = some (.int .i64 ya) := blk_cell HY.out 1
  have y2 : w14.cell? ⟨w9.heap.size, 2, none⟩ = some (.int .i64 yb) := blk_cell HY.out 2
  have z0 : w14.cell? ⟨w11.heap.size, 0, none⟩ = some (.int .i64 yo) := blk_cell HZ.out 0
  have z1 : w14.cell? ⟨w11.heap.size, 1, none⟩ = some (.int .i64 ya) := blk_cell HZ.out 1
  have z2 : w14.cell? ⟨w11.heap.size, 2, none⟩ = some (.int .i64 yb) := blk_cell HZ.out 2
  clear HY HZ
  go_wp2_with fail
  clear y0 y1 y2 z0 z1 z2 q1 q2 q3 q4 q5 q6 q7 q8 q9 q10 q11
  go_loopw [145] (fun i W => ∃ (j : Nat) (vs : List Int), i = .int .i64 j ∧ j ≤ tl.length ∧ vs.length = tl.length ∧ Aside0 (W.ownsRow w4.heap.size 3 1 (.slice Au tl.length cu) vs.length (nums .i64 vs)) ∧ Aside0 (W.ownsRow w5.heap.size 3 1 (.slice Aw tl.length cw) tl.length (nums .i64 tl)) ∧ Aside0 (Below w0.heap.size w0 W)) (fun i _ => tl.length - (intOf i).toNat)
  case atStart => exact ⟨0, tl, rfl, Nat.zero_le _, rfl, Aside0.mk HT.out, Aside0.mk HO.out, Aside0.mk HW.out⟩
  case round =>
    clear HT HO HW
    obtain ⟨j, vs, rfl, hj, hvs, HT, HO, HW⟩ := hrel
    by_cases hjl : j < tl.length
    · have htl2 := HTL.out.1
      have hjl' : ((j : Int) < ((tl.length : Nat) : Int)) := by omega
      obtain ⟨g6, hA6, _, hg6, _, hcl, hfr⟩ := i64_at HT.out j (by omega)
      have hg5 := HGB.out g6 hA6
      obtain rfl := hA6
      have HVS := Lib.hid hvs
      generalize vs.getD j 0 = z at *
      clear hvs
      go_wp2
      go_roundw
      case rel =>
        have ho : wr.ownsRow w4.heap.size 3 1 (.slice (some ⟨g6, 0, none⟩) vs.length cu) vs.length (nums .i64 vs) := by
          have h := HT.out
          rw [HVS.out] at h ⊢
          exact h
        have h2 := own_put ho j 9
        rw [Int.toNat_natCast, HVS.out] at h2
        have hs := HS4.out
        exact ⟨j + 1, vs.set j 9, by go_num, by omega, by rw [List.length_set]; exact HVS.out, Aside0.mk h2, Aside0.mk (ownsRow_setCell_below HO.out hg5 _), Aside0.mk (HW.out.setCell (Nat.le_trans hs hg6) _)⟩
      case measure => simp [intOf]; omega
    · obtain rfl : j = tl.length := by omega
      have hjl' : ¬ (((tl.length : Nat) : Int) < ((tl.length : Nat) : Int)) := by omega
      clear hjl hj HT hvs HGB HS4
      obtain ⟨x0, x1, x2⟩ := HQ.out _ HW.out
      go_wp2_with fail
      refine (HEF.out wr (HRV.out _ HW.out).len).mono ?_
      rintro e w20 ⟨Ag, cg, Ah, ch, rfl, hu, _, hb⟩
      have HU := Lib.hid hu
      have HO_ := Lib.hid (pw_own_below HO.out hb)
      clear HO
      have HO := HO_
      clear HO_
      have HB := Lib.hid (below_step HW.out hb)
      clear HW hb hu x0 x1 x2 HEF
      go_wp2_with fail
      have HIN := Lib.hid (fun W (hW : Below w20.heap.size w20 W) => ints_same W Ag cg Aw cw tl HTL.out.1 (own_IRow (pw_own_below HU.out hW)) (own_IRow (pw_own_below HO.out hW)))
      have HSH := Lib.hid (fun W (hW : Below w20.heap.size w20 W) => HS1.out W (HRV.out _ (below_step HB.out hW)).tabs)
      have HQ2 := Lib.hid (fun W (hW : Below w20.heap.size w20 W) => HQ.out W (below_step HB.out hW))
      have HEND := Lib.hid (fun W (hW : Below w20.heap.size w20 W) => below_step HW0.out (below_step HB.out hW))
      have HW := Lib.hid (below_drew (Below.refl w20.heap.size w20))
      clear HU HO HS1 HQ HB HW0 HRV HTL HSZ
      -- region 21: 25 operations: 0:move 1:move 2:call 3:move 4:move 5:call 6:move 7:call 8:binOp 9:pick 10:move 11:load 12:call 13:load 14:call 15:binOp 16:pick 17:move 18:load 19:call 20:load 21:call 22:binOp 23:pick 24:assign
      refine start_ (S := fun W' => W'.cell? ⟨w.heap.size, 0, none⟩ = some (.int .i64 op) ∧ W'.cell? ⟨w.heap.size, 1, none⟩ = some (.int .i64 a) ∧ W'.cell? ⟨w.heap.size, 2, none⟩ = some (.int .i64 b)) (ds := []) #[false, false, false, false, false, false, false, false, false, false, false, false, false, false, false, false, false, false, false, false, false, false, false, false, false] (by kernel_rfl) rfl rfl (HQ2.out _ HW.out) (fun hHeld => ?_)
      refine pure_ (i := 0) (N := some 158) (v := ?_) (a' := ?_) #[true, false, false, false, false, false, false, false, false, false, false, false, false, false, false, false, false, false, false, false, false, false, false, false, false] rfl rfl (by kernel_rfl) (fun _ _ _ h => h) (Or.inl ⟨by rfl, ?_⟩) ?_ ?_
      rotate_left
      · intro w'
        go_simp
        with_reducible rfl
      rotate_left
      · simp only [Act.put, List.setIfInBounds_toArray, List.set_cons_zero, List.set_cons_succ]
        rfl
      refine pure_ (i := 1) (N := some 159) (v := ?_) (a' := ?_) #[true, true, false, false, false, false, false, false, false, false, false, false, false, false, false, false, false, false, false, false, false, false, false, false, false] rfl rfl (by kernel_rfl) (fun _ _ _ h => h) (Or.inl ⟨by rfl, ?_⟩) ?_ ?_
      rotate_left
      · intro w'
        go_simp
        with_reducible rfl
      rotate_left
      · simp only [Act.put, List.setIfInBounds_toArray, List.set_cons_zero, List.set_cons_succ]
        rfl
      refine one_ (i := 2) (N := some 160) #[true, true, true, false, false, false, false, false, false, false, false, false, false, false, false, false, false, false, false, false, false, false, false, false, false] rfl rfl (by kernel_rfl) (by decide) (fun K hK => ?_)
      refine goes_ Tryz.func13 (by kernel_rfl) rfl #[.slice Ag tl.length cg, .slice Aw tl.length cw] (by rfl) rfl rfl (by simp only [List.map_toArray, List.map_cons, List.map_nil]; rfl) ?_
      with_reducible refine (HIN.out _ HW.out).mono ?_
      rintro e w_ ⟨rfl, hb_⟩
      refine ⟨_, rfl, ?_⟩
      have HW_ := Lib.hid (below_step HW.out hb_)
      clear HW
      have HW := HW_
      clear HW_ hb_
      refine hK.out _ _ (HQ2.out _ HW.out) (fun hHeld => ?_)
      clear hK K
      refine norm_ (a' := ?_) ?_ ?_
      rotate_left
      · show Act.put _ (some 160) _ = _
        simp only [Act.put, List.setIfInBounds_toArray, List.set_cons_zero, List.set_cons_succ]
        rfl
      refine pure_ (i := 3) (N := some 161) (v := ?_) (a' := ?_) #[true, true, true, true, false, false, false, false, false, false, false, false, false, false, false, false, false, false, false, false, false, false, false, false, false] rfl rfl (by kernel_rfl) (fun _ _ _ h => h) (Or.inl ⟨by rfl, ?_⟩) ?_ ?_
      rotate_left
      · intro w'
        go_simp
        with_reducible rfl
      rotate_left
      · simp only [Act.put, List.setIfInBounds_toArray, List.set_cons_zero, List.set_cons_succ]
        rfl
      refine pure_ (i := 4) (N := some 162) (v := ?_) (a' := ?_) #[true, true, true, true, true, false, false, false, false, false, false, false, false, false, false, false, false, false, false, false, false, false, false, false, false] rfl rfl (by kernel_rfl) (fun _ _ _ h => h) (Or.inl ⟨by rfl, ?_⟩) ?_ ?_
      rotate_left
      · intro w'
        go_simp
        with_reducible rfl
      rotate_left
      · simp only [Act.put, List.setIfInBounds_toArray, List.set_cons_zero, List.set_cons_succ]
        rfl
      refine pure_ (i := 6) (N := some 164) (v := ?_) (a' := ?_) #[true, true, true, true, true, false, true, false, false, false, false, false, false, false, false, false, false, false, false, false, false, false, false, false, false] rfl rfl (by kernel_rfl) (fun _ _ _ h => h) (Or.inl ⟨by rfl, ?_⟩) ?_ ?_
      rotate_left
      · intro w'
        go_simp
        with_reducible rfl
      rotate_left
      · simp only [Act.put, List.setIfInBounds_toArray, List.set_cons_zero, List.set_cons_succ]
        rfl
      refine one_ (i := 5) (N := some 163) #[true, true, true, true, true, true, true, false, false, false, false, false, false, false, false, false, false, false, false, false, false, false, false, false, false] rfl rfl (by kernel_rfl) (by decide) (fun K hK => ?_)
      refine goes_ Tryz.func21 (by kernel_rfl) rfl #[.int .i64 n] (by rfl) rfl rfl (by simp only [List.map_toArray, List.map_cons, List.map_nil]; rfl) ?_
      with_reducible refine (HN1.out _).mono ?_
      rintro e w_ ⟨rfl, hb_⟩
      refine ⟨_, rfl, ?_⟩
      have HW_ := Lib.hid (below_step HW.out hb_)
      clear HW
      have HW := HW_
      clear HW_ hb_
      refine hK.out _ _ (HQ2.out _ HW.out) (fun hHeld => ?_)
      clear hK K
      refine norm_ (a' := ?_) ?_ ?_
      rotate_left
      · show Act.put _ (some 163) _ = _
        simp only [Act.put, List.setIfInBounds_toArray, List.set_cons_zero, List.set_cons_succ]
        rfl
      refine one_ (i := 7) (N := some 165) #[true, true, true, true, true, true, true, true, false, false, false, false, false, false, false, false, false, false, false, false, false, false, false, false, false] rfl rfl (by kernel_rfl) (by decide) (fun K hK => ?_)
      refine goes_ Tryz.func22 (by kernel_rfl) rfl #[.int .i64 n] (by rfl) rfl rfl (by simp only [List.map_toArray, List.map_cons, List.map_nil]; rfl) ?_
      with_reducible refine (HN2.out _).mono ?_
      rintro e w_ ⟨rfl, hb_⟩
      refine ⟨_, rfl, ?_⟩
      have HW_ := Lib.hid (below_step HW.out hb_)
      clear HW
      have HW := HW_
      clear HW_ hb_
      refine hK.out _ _ (HQ2.out _ HW.out) (fun hHeld => ?_)
      clear hK K
      refine norm_ (a' := ?_) ?_ ?_
      rotate_left
      · show Act.put _ (some 165) _ = _
        simp only [Act.put, List.setIfInBounds_toArray, List.set_cons_zero, List.set_cons_succ]
        rfl
      refine pure_ (i := 8) (N := some 166) (v := ?_) (a' := ?_) #[true, true, true, true, true, true, true, true, true, false, false, false, false, false, false, false, false, false, false, false, false, false, false, false, false] rfl rfl (by kernel_rfl) (fun _ _ _ h => h) (Or.inl ⟨by rfl, ?_⟩) ?_ ?_
      rotate_left
      · intro w'
        go_simp
        with_reducible rfl
      rotate_left
      · simp only [Act.put, List.setIfInBounds_toArray, List.set_cons_zero, List.set_cons_succ]
        rfl
      refine pure_ (i := 9) (N := some 167) (v := ?_) (a' := ?_) #[true, true, true, true, true, true, true, true, true, true, false, false, false, false, false, false, false, false, false, false, false, false, false, false, false] rfl rfl (by kernel_rfl) (fun _ _ _ h => h) (Or.inl ⟨by rfl, ?_⟩) ?_ ?_
      rotate_left
      · intro w'
        go_simp
        with_reducible rfl
      rotate_left
      · simp only [Act.put, List.setIfInBounds_toArray, List.set_cons_zero, List.set_cons_succ]
        rfl
      refine pure_ (i := 10) (N := some 168) (v := ?_) (a' := ?_) #[true, true, true, true, true, true, true, true, true, true, true, false, false, false, false, false, false, false, false, false, false, false, false, false, false] rfl rfl (by kernel_rfl) (fun _ _ _ h => h) (Or.inl ⟨by rfl, ?_⟩) ?_ ?_
      rotate_left
      · intro w'
        go_simp
        with_reducible rfl
      rotate_left
      · simp only [Act.put, List.setIfInBounds_toArray, List.set_cons_zero, List.set_cons_succ]
        rfl
      refine take_ (i := 11) (N := some 169) (v := ?_) (a' := ?_) #[true, true, true, true, true, true, true, true, true, true, true, true, false, false, false, false, false, false, false, false, false, false, false, false, false] rfl rfl (by kernel_rfl) (fun _ _ _ h => h) (Or.inl ⟨by rfl, ?_⟩) hHeld ?_ ?_
      rotate_left
      · rintro w' ⟨x0, x1, x2⟩
        go_simp
        with_reducible rfl
      rotate_left
      · simp only [Act.put, List.setIfInBounds_toArray, List.set_cons_zero, List.set_cons_succ]
        rfl
      refine take_ (i := 13) (N := some 171) (v := ?_) (a' := ?_) #[true, true, true, true, true, true, true, true, true, true, true, true, false, true, false, false, false, false, false, false, false, false, false, false, false] rfl rfl (by kernel_rfl) (fun _ _ _ h => h) (Or.inl ⟨by rfl, ?_⟩) hHeld ?_ ?_
      rotate_left
      · rintro w' ⟨x0, x1, x2⟩
        go_simp
        with_reducible rfl
      rotate_left
      · simp only [Act.put, List.setIfInBounds_toArray, List.set_cons_zero, List.set_cons_succ]
        rfl
      refine one_ (i := 12) (N := some 170) #[true, true, true, true, true, true, true, true, true, true, true, true, true, true, false, false, false, false, false, false, false, false, false, false, false] rfl rfl (by kernel_rfl) (by decide) (fun K hK => ?_)
      refine goes_ Tryz.func9 (by kernel_rfl) rfl #[.agg #[.int .i64 op, .int .i64 a, .int .i64 b]] (by rfl) rfl rfl (by simp only [List.map_toArray, List.map_cons, List.map_nil]; rfl) ?_
      with_reducible refine (HE1.out _).mono ?_
      rintro e w_ ⟨rfl, hb_⟩
      refine ⟨_, rfl, ?_⟩
      have HW_ := Lib.hid (below_step HW.out hb_)
      clear HW
      have HW := HW_
      clear HW_ hb_
      refine hK.out _ _ (HQ2.out _ HW.out) (fun hHeld => ?_)
      clear hK K
      refine norm_ (a' := ?_) ?_ ?_
      rotate_left
      · show Act.put _ (some 170) _ = _
        simp only [Act.put, List.setIfInBounds_toArray, List.set_cons_zero, List.set_cons_succ]
        rfl
      refine one_ (i := 14) (N := some 172) #[true, true, true, true, true, true, true, true, true, true, true, true, true, true, true, false, false, false, false, false, false, false, false, false, false] rfl rfl (by kernel_rfl) (by decide) (fun K hK => ?_)
      refine goes_ Tryz.func23 (by kernel_rfl) rfl #[.agg #[.int .i64 op, .int .i64 a, .int .i64 b]] (by rfl) rfl rfl (by simp only [List.map_toArray, List.map_cons, List.map_nil]; rfl) ?_
      with_reducible refine (HE2.out _).mono ?_
      rintro e w_ ⟨rfl, hb_⟩
      refine ⟨_, rfl, ?_⟩
      have HW_ := Lib.hid (below_step HW.out hb_)
      clear HW
      have HW := HW_
      clear HW_ hb_
      refine hK.out _ _ (HQ2.out _ HW.out) (fun hHeld => ?_)
      clear hK K
      refine norm_ (a' := ?_) ?_ ?_
      rotate_left
      · show Act.put _ (some 172) _ = _
        simp only [Act.put, List.setIfInBounds_toArray, List.set_cons_zero, List.set_cons_succ]
        rfl
      refine pure_ (i := 15) (N := some 173) (v := ?_) (a' := ?_) #[true, true, true, true, true, true, true, true, true, true, true, true, true, true, true, true, false, false, false, false, false, false, false, false, false] rfl rfl (by kernel_rfl) (fun _ _ _ h => h) (Or.inl ⟨by rfl, ?_⟩) ?_ ?_
      rotate_left
      · intro w'
        go_simp
        with_reducible rfl
      rotate_left
      · simp only [Act.put, List.setIfInBounds_toArray, List.set_cons_zero, List.set_cons_succ]
        rfl
      refine pure_ (i := 16) (N := some 174) (v := ?_) (a' := ?_) #[true, true, true, true, true, true, true, true, true, true, true, true, true, true, true, true, true, false, false, false, false, false, false, false, false] rfl rfl (by kernel_rfl) (fun _ _ _ h => h) (Or.inl ⟨by rfl, ?_⟩) ?_ ?_
      rotate_left
      · intro w'
        go_simp
        with_reducible rfl
      rotate_left
      · simp only [Act.put, List.setIfInBounds_toArray, List.set_cons_zero, List.set_cons_succ]
        rfl
      refine pure_ (i := 17) (N := some 175) (v := ?_) (a' := ?_) #[true, true, true, true, true, true, true, true, true, true, true, true, true, true, true, true, true, true, false, false, false, false, false, false, false] rfl rfl (by kernel_rfl) (fun _ _ _ h => h) (Or.inl ⟨by rfl, ?_⟩) ?_ ?_
      rotate_left
      · intro w'
        go_simp
        with_reducible rfl
      rotate_left
      · simp only [Act.put, List.setIfInBounds_toArray, List.set_cons_zero, List.set_cons_succ]
        rfl
      refine take_ (i := 18) (N := some 176) (v := ?_) (a' := ?_) #[true, true, true, true, true, true, true, true, true, true, true, true, true, true, true, true, true, true, true, false, false, false, false, false, false] rfl rfl (by kernel_rfl) (fun _ _ _ h => h) (Or.inl ⟨by rfl, ?_⟩) hHeld ?_ ?_
      rotate_left
      · rintro w' ⟨x0, x1, x2⟩
        go_simp
        with_reducible rfl
      rotate_left
      · simp only [Act.put, List.setIfInBounds_toArray, List.set_cons_zero, List.set_cons_succ]
        rfl
      refine take_ (i := 20) (N := some 178) (v := ?_) (a' := ?_) #[true, true, true, true, true, true, true, true, true, true, true, true, true, true, true, true, true, true, true, false, true, false, false, false, false] rfl rfl (by kernel_rfl) (fun _ _ _ h => h) (Or.inl ⟨by rfl, ?_⟩) hHeld ?_ ?_
      rotate_left
      · rintro w' ⟨x0, x1, x2⟩
        go_simp
        with_reducible rfl
      rotate_left
      · simp only [Act.put, List.setIfInBounds_toArray, List.set_cons_zero, List.set_cons_succ]
        rfl
      refine one_ (i := 19) (N := some 177) #[true, true, true, true, true, true, true, true, true, true, true, true, true, true, true, true, true, true, true, true, true, false, false, false, false] rfl rfl (by kernel_rfl) (by decide) (fun K hK => ?_)
      refine goes_ Tryz.func24 (by kernel_rfl) rfl #[.agg #[.int .i64 op, .int .i64 a, .int .i64 b]] (by rfl) rfl rfl (by simp only [List.map_toArray, List.map_cons, List.map_nil]; rfl) ?_
      with_reducible refine (HSH.out _ HW.out).mono ?_
      rintro e w_ ⟨rfl, hb_⟩
      refine ⟨_, rfl, ?_⟩
      have HW_ := Lib.hid (below_step HW.out hb_)
      clear HW
      have HW := HW_
      clear HW_ hb_
      refine hK.out _ _ (HQ2.out _ HW.out) (fun hHeld => ?_)
      clear hK K
      refine norm_ (a' := ?_) ?_ ?_
      rotate_left
      · show Act.put _ (some 177) _ = _
        simp only [Act.put, List.setIfInBounds_toArray, List.set_cons_zero, List.set_cons_succ]
        rfl
      refine one_ (i := 21) (N := some 179) #[true, true, true, true, true, true, true, true, true, true, true, true, true, true, true, true, true, true, true, true, true, true, false, false, false] rfl rfl (by kernel_rfl) (by decide) (fun K hK => ?_)
      refine goes_ Tryz.func25 (by kernel_rfl) rfl #[.agg #[.int .i64 op, .int .i64 a, .int .i64 b]] (by rfl) rfl rfl (by simp only [List.map_toArray, List.map_cons, List.map_nil]; rfl) ?_
      with_reducible refine (HS2.out _).mono ?_
      rintro e w_ ⟨rfl, hb_⟩
      refine ⟨_, rfl, ?_⟩
      have HW_ := Lib.hid (below_step HW.out hb_)
      clear HW
      have HW := HW_
      clear HW_ hb_
      refine hK.out _ _ (HQ2.out _ HW.out) (fun hHeld => ?_)
      clear hK K
      refine norm_ (a' := ?_) ?_ ?_
      rotate_left
      · show Act.put _ (some 179) _ = _
        simp only [Act.put, List.setIfInBounds_toArray, List.set_cons_zero, List.set_cons_succ]
        rfl
      refine pure_ (i := 22) (N := some 180) (v := ?_) (a' := ?_) #[true, true, true, true, true, true, true, true, true, true, true, true, true, true, true, true, true, true, true, true, true, true, true, false, false] rfl rfl (by kernel_rfl) (fun _ _ _ h => h) (Or.inl ⟨by rfl, ?_⟩) ?_ ?_
      rotate_left
      · intro w'
        go_simp
        with_reducible rfl
      rotate_left
      · simp only [Act.put, List.setIfInBounds_toArray, List.set_cons_zero, List.set_cons_succ]
        rfl
      refine pure_ (i := 23) (N := some 181) (v := ?_) (a' := ?_) #[true, true, true, true, true, true, true, true, true, true, true, true, true, true, true, true, true, true, true, true, true, true, true, true, false] rfl rfl (by kernel_rfl) (fun _ _ _ h => h) (Or.inl ⟨by rfl, ?_⟩) ?_ ?_
      rotate_left
      · intro w'
        go_simp
        with_reducible rfl
      rotate_left
      · simp only [Act.put, List.setIfInBounds_toArray, List.set_cons_zero, List.set_cons_succ]
        rfl
      refine pure_ (i := 24) (N := some 6) (v := ?_) (a' := ?_) #[true, true, true, true, true, true, true, true, true, true, true, true, true, true, true, true, true, true, true, true, true, true, true, true, true] rfl rfl (by kernel_rfl) (fun _ _ _ h => h) (Or.inl ⟨by rfl, ?_⟩) ?_ ?_
      rotate_left
      · intro w'
        go_simp
        with_reducible rfl
      rotate_left
      · simp only [Act.put, List.setIfInBounds_toArray, List.set_cons_zero, List.set_cons_succ]
        rfl
      refine done_ (by kernel_rfl) ?_
      go_wp2
      go_ret
      exact ⟨rfl, HEND.out _ HW.out⟩
end Go.Proofs.YtamagdnlicnefaaGreatDoor
