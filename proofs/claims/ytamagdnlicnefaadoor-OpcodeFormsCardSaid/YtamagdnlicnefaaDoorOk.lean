/- Opcode: the document's Decode. -/
import Derived.Test.YtamagdnlicnefaaDoorOj
namespace Go.Proofs.YtamagdnlicnefaaDoor
open Go.RowKit Go.Shelf Go.Proofs.YtamagdnlicnefaaDoorW.PrintWords Go.Proofs.YtamagdnlicnefaaDoorW.PrintLast Go.Proofs.YtamagdnlicnefaaDoorW.PrintMore
open Go.Proofs.YtamagdnlicnefaaDoor.PRef

theorem most_any (k : Nat) (hk : k ≤ 10) (h1 : k ≠ 1) (w : World) : Calls Tryd.prog 56 #[.int .i64 k] w fun e w' => e = .returned (.int .i64 (hi k)) ∧ Below w.heap.size w w' := by
  have hm : ∀ k : Fin 11, k.val ≠ 1 → backstayref04_most.f k.val = some (hi k.val) := by decide +kernel
  refine (backstayref04_most.calls k (hi k) w (hm ⟨k, by omega⟩ h1)).mono ?_
  rintro e w' ⟨rfl, hb⟩
  exact ⟨rfl, hb⟩
theorem least_any (k : Nat) (hk : k ≤ 10) (h1 : k ≠ 1) (w : World) : Calls Tryd.prog 57 #[.int .i64 k] w fun e w' => e = .returned (.int .i64 (lo k)) ∧ Below w.heap.size w w' := by
  have hm : ∀ k : Fin 11, k.val ≠ 1 → backstayref04_least.f k.val = some (lo k.val) := by decide +kernel
  refine (backstayref04_least.calls k (lo k) w (hm ⟨k, by omega⟩ h1)).mono ?_
  rintro e w' h
  first | exact h | (rcases h with ⟨rfl, n, rfl⟩; exact ⟨rfl, pw_below_drewN (Below.refl _ _) _⟩)
theorem kinds36_any (op : Int) (w : World) : Calls Tryd.prog 36 #[.int .i64 op] w fun e w' => e = .returned (.tuple #[.int .i64 (ka op), .int .i64 (kb op)]) ∧ Below w.heap.size w w' := by
  refine (backstayref04_Kinds.calls 20 op (ka op) (kb op) w (kinds_f op)).mono ?_
  rintro e w' h
  first | exact h | (rcases h with ⟨rfl, n, rfl⟩; exact ⟨rfl, pw_below_drewN (Below.refl _ _) _⟩)

/-- What the document's one leaves. -/
def OnePost (w : World) (g base : Nat) (v : Value) (bs : List Int) (p : Nat) (r : Int × Nat × Nat) (e : Ending) (w' : World) : Prop :=
  ∃ x, e = .returned (.tuple #[.int .i64 x, .int .i64 r.2.1]) ∧ (r.2.1 = 0 → x = r.1) ∧ RefIs w' g base v bs (p + r.2.2) ∧ Fr (fun i => i = g) w w'
theorem RefIs.fr_below {w W : World} {g base p : Nat} {v : Value} {bs : List Int} (h : RefIs w g base v bs p) (hb : Below w.heap.size w W) : RefIs W g base v bs p ∧ Fr (fun i => i = g) w W := ⟨h.below hb, Fr.of_below hb⟩

set_option maxHeartbeats 4000000 in
theorem one37_any (g base k : Nat) (v : Value) (bs : List Int) (p : Nat) (w : World) (hR : RefIs w g base v bs p) (hk : k ≤ 10) : Calls Tryd.prog 37 #[.pointer (some ⟨g, 0, none⟩), .int .i64 k] w (OnePost w g base v bs p (oneAt k (rest bs p))) := by
  by_cases h0 : k = 0
  · subst h0
    go_enter Tryd.func37, Tryd.ntmps37
    go_wp2
    go_ret2
    exact ⟨0, rfl, fun _ => rfl, hR, Fr.refl _ _⟩
  rw [oneAt_some h0]
  have hb0 : ((k : Int) == 0) = false := beq_eq_false_iff_ne.2 (by omega)
  by_cases h1 : k = 1
  · subst h1
    have HS := Lib.hid (RefRSigned_any w g base v bs p (-9223372036854775808) 9223372036854775807 hR)
    have HO : Hid (oneR 1 (rest bs p) = readS (rest bs p) (-9223372036854775808) 9223372036854775807) := Lib.hid (if_pos rfl)
    generalize oneR 1 (rest bs p) = oR at *
    generalize readS (rest bs p) (-9223372036854775808) 9223372036854775807 = r at *
    obtain ⟨m, c, wd⟩ := r
    clear hb0 h0 hR
    go_enter Tryd.func37, Tryd.ntmps37
    go_wp2_with (go_at_call 55; refine HS.out.mono ?_; rintro e w1 ⟨rfl, hR1, hF1⟩; have HR1 := Lib.hid hR1; have HF1 := Lib.hid hF1; clear hR1 hF1)
    go_ret2
    rw [HO.out]
    exact ⟨m, rfl, fun _ => rfl, HR1.out, HF1.out⟩
  · have hb1 : ((k : Int) == 1) = false := beq_eq_false_iff_ne.2 (by omega)
    have hhi := hi_ge k hk
    have hhi2 := hi_le k hk
    have HM := Lib.hid (most_any k hk h1)
    have HL := Lib.hid (least_any k hk h1)
    have HN := Lib.hid (fun W (h : RefIs W g base v bs p) => RefRNumber_any W g base v bs p (hi k) h)
    have hle := readN_le (rest bs p) (hi k) hhi
    have hcd := readN_code (rest bs p) (hi k)
    have HO : Hid (oneR k (rest bs p) = (((readN (rest bs p) (hi k)).1 : Int), (if (readN (rest bs p) (hi k)).2.1 = 0 ∧ ((readN (rest bs p) (hi k)).1 : Int) < lo k then 40 else (readN (rest bs p) (hi k)).2.1), (readN (rest bs p) (hi k)).2.2)) := Lib.hid (if_neg h1)
    generalize oneR k (rest bs p) = oR at *
    generalize readN (rest bs p) (hi k) = rN at *
    obtain ⟨m, code, wd⟩ := rN
    simp only at HN hle hcd HO
    have HR := Lib.hid hR
    clear hR h0 h1
    go_enter Tryd.func37, Tryd.ntmps37
    go_wp2_with fail
    refine (HM.out _).mono ?_
    rintro e w1 ⟨rfl, hb1'⟩
    obtain ⟨r1, r2⟩ := HR.out.fr_below hb1'
    have HR1 := Lib.hid r1
    have HF1 := Lib.hid r2
    clear r1 r2 hb1'
    go_wp2_with fail
    refine (HN.out _ HR1.out).mono ?_
    rintro e w2 ⟨rfl, hR2, hF2⟩
    have HR2 := Lib.hid hR2
    have HF2 := Lib.hid (HF1.out.trans hF2 (fun _ _ h => h))
    clear hR2 hF2
    by_cases hc : code = 0
    · subst hc
      by_cases hlo : (m : Int) < lo k
      · have HOO : Hid (oR = ((m : Int), 40, wd)) := Lib.hid (HO.out.trans (by rw [if_pos ⟨rfl, hlo⟩]))
        go_wp2_with (go_at_call 57; (with_reducible refine (HL.out _).mono ?_); rintro e w3 ⟨rfl, hb3⟩; have HB3 := Lib.hid (HR2.out.fr_below hb3); clear hb3)
        go_ret2
        rw [HOO.out]
        exact ⟨0, rfl, (fun h => by cases h), HB3.out.1, HF2.out.trans HB3.out.2 (fun _ _ h => h)⟩
      · have HOO : Hid (oR = ((m : Int), 0, wd)) := Lib.hid (HO.out.trans (by rw [if_neg (by omega)]))
        have hlo2 : decide ((m : Int) < lo k) = false := decide_eq_false hlo
        clear hlo
        go_wp2_with (go_at_call 57; (with_reducible refine (HL.out _).mono ?_); rintro e w3 ⟨rfl, hb3⟩; have HB3 := Lib.hid (HR2.out.fr_below hb3); clear hb3)
        go_ret2
        rw [HOO.out]
        exact ⟨_, rfl, fun _ => rfl, HB3.out.1, HF2.out.trans HB3.out.2 (fun _ _ h => h)⟩
    · have hcb : ((code : Int) != 0) = true := by rw [bne_iff_ne]; omega
      have HOO : Hid (oR = ((m : Int), code, wd)) := Lib.hid (HO.out.trans (by rw [if_neg (fun h => hc h.1)]))
      have HCC := Lib.hid hc
      clear hc
      go_wp2
      go_ret2
      rw [HOO.out]
      exact ⟨0, rfl, fun h => absurd h HCC.out, HR2.out, HF2.out⟩

/-- What the document's Decode leaves. -/
def RDecPost (w : World) (g base : Nat) (v : Value) (bs : List Int) (p : Nat) (r : (Int × Int × Int) × Nat × Nat) (e : Ending) (w' : World) : Prop :=
  e = .returned (.tuple #[.agg #[.int .i64 r.1.1, .int .i64 r.1.2.1, .int .i64 r.1.2.2], .int .i64 r.2.1]) ∧ RefIs w' g base v bs (p + r.2.2) ∧ Fr (fun i => i = g) w w'
theorem RefIs.fr23 {X Y : World} {g base p b : Nat} {v : Value} {bs : List Int} {c : Array Value} (h : RefIs X g base v bs p) (hx : X.heap[b]? = some (.cells c 23 (0, 0))) (hf : Fr (fun i => i = b) X Y) : RefIs Y g base v bs p := by
  have ne : ∀ {i : Nat} {d : Array Value} {t : TypeId}, X.heap[i]? = some (.cells d t (0, 0)) → t ≠ 23 → i ≠ b := fun {i d t} h1 h2 e => by
    subst e
    rw [hx] at h1
    injection h1 with h1
    injection h1 with _ h1
    exact h2 h1.symm
  refine ⟨hf.at h.blk (ne h.blk (by decide)), ⟨h.own.1, ?_⟩, h.le, h.small, h.bytes⟩
  rcases h.own.2 with h' | ⟨r, cap, cur, hu, hb, hr, rest⟩
  · exact .inl h'
  · exact .inr ⟨r, cap, cur, hu, hb, hf.at hr (ne hr (by decide)), rest⟩
/-- The end of each way: the result is stored. -/
theorem dec_end {w W : World} {g base p : Nat} {v : Value} {bs : List Int} {x y z : Value} (u0 u1 u2 : Value) (hr : W.heap[w.heap.size]? = some (.cells #[x, y, z] 23 (0, 0))) (hR : RefIs W g base v bs p) (hF : Fr (fun i => i = g) w W) :
    (((W.setCell ⟨w.heap.size, 0, none⟩ u0).setCell ⟨w.heap.size, 1, none⟩ u1).setCell ⟨w.heap.size, 2, none⟩ u2).heap[w.heap.size]? = some (.cells #[u0, u1, u2] 23 (0, 0)) ∧
    RefIs (((W.setCell ⟨w.heap.size, 0, none⟩ u0).setCell ⟨w.heap.size, 1, none⟩ u1).setCell ⟨w.heap.size, 2, none⟩ u2) g base v bs p ∧
    Fr (fun i => i = g) w (((W.setCell ⟨w.heap.size, 0, none⟩ u0).setCell ⟨w.heap.size, 1, none⟩ u1).setCell ⟨w.heap.size, 2, none⟩ u2) := by
  obtain ⟨z1, z2⟩ := set3 (u0 := u0) (u1 := u1) (u2 := u2) hr
  exact ⟨z1, hR.fr23 hr z2, hF.trans z2 (fun i hi h => by omega)⟩

set_option maxRecDepth 100000 in
set_option maxHeartbeats 4000000 in
theorem Decode16_any (g base : Nat) (v : Value) (bs : List Int) (p : Nat) (w : World) (hR : RefIs w g base v bs p) :
    Calls Tryd.prog 16 #[.pointer (some ⟨g, 0, none⟩)] w (RDecPost w g base v bs p (decR (rest bs p))) := by
  have HN := Lib.hid (fun W (h : RefIs W g base v bs p) => RefRNumber_any W g base v bs p 29 h)
  have hg := blk_lt hR.blk
  have hcode := readN_code (rest bs p) 29
  have hm29 := readN_le (rest bs p) 29 (by omega)
  have hB0 := below_alloc (Below.refl w.heap.size w) (.cells #[.int .i64 0, .int .i64 0, .int .i64 0] 23)
  have hx0 := World.alloc_heap_new w (.cells #[.int .i64 0, .int .i64 0, .int .i64 0] 23)
  have hR0 := hR.below hB0
  have HB0 := Lib.hid hB0
  have HX0 := Lib.hid hx0
  have HR0 := Lib.hid hR0
  clear hB0 hx0 hR0 hR
  by_cases he : (readN (rest bs p) 29).2.1 = 0
  · have HD : Hid (decR (rest bs p) = decR2 (readN (rest bs p) 29).1 (decO (ka (readN (rest bs p) 29).1) (kb (readN (rest bs p) 29).1) (rest bs p) (readN (rest bs p) 29).2.2)) := Lib.hid (if_neg (by omega))
    generalize decR (rest bs p) = dR at *
    generalize readN (rest bs p) 29 = rN at *
    obtain ⟨m, code, wd⟩ := rN
    simp only at HN HD he hcode hm29
    subst he
    have HK := Lib.hid (kinds36_any (m : Int))
    have HO1 := Lib.hid (fun W (h : RefIs W g base v bs (p + wd)) => one37_any g base (ka m) v bs (p + wd) W h (ka_le _))
    rw [rest_drop] at HO1
    unfold decO at HD
    go_enter Tryd.func16, Tryd.ntmps16
    go_wp2_with fail
    refine (HN.out _ HR0.out).mono ?_
    rintro e w1 ⟨rfl, hR1, hF1⟩
    have HR1 := Lib.hid hR1
    have HX1 := Lib.hid (hF1.at HX0.out (show ¬ w.heap.size = g by omega))
    have HF1 := Lib.hid (Fr.trans (S := fun i => i = g) (Fr.of_below HB0.out) hF1 (fun _ _ h => h))
    clear hR1 hF1 HR0 HX0 HB0
    go_wp2_with fail
    refine (HK.out _).mono ?_
    rintro e w2 ⟨rfl, hb2⟩
    have HX2 := Lib.hid ((hb2.block _ (blk_lt HX1.out)).trans HX1.out)
    have HR2 := Lib.hid (HR1.out.below hb2)
    have HF2 := Lib.hid (HF1.out.trans (Fr.of_below (S := fun _ => False) hb2) (fun _ _ h => h.elim))
    clear hb2 HR1 HX1 HF1
    go_wp2_with fail
    refine (HO1.out _ HR2.out).mono ?_
    rintro e w3 ⟨x1, rfl, hx1, hR3, hF3⟩
    have HX3 := Lib.hid (hF3.at HX2.out (show ¬ w.heap.size = g by omega))
    have HR3 := Lib.hid hR3
    have HF3 := Lib.hid (HF2.out.trans hF3 (fun _ _ h => h))
    have HE1 := Lib.hid hx1
    have HO2 := Lib.hid (fun d W (h : RefIs W g base v bs (p + d)) => one37_any g base (kb m) v bs (p + d) W h (kb_le _))
    simp only [rest_drop] at HO2
    clear hx1 hR3 hF3 HX2 HR2 HF2
    generalize oneAt (ka m) ((rest bs p).drop wd) = o1 at *
    obtain ⟨a1, c1, d1⟩ := o1
    simp only at HD HR3 HE1 ⊢
    by_cases hc1 : c1 = 0
    · subst hc1
      rw [if_neg (by omega)] at HD
      have HO2' := Lib.hid (HO2.out (wd + d1))
      clear HO2
      have HR3' : Hid (RefIs w3 g base v bs (p + (wd + d1))) := Lib.hid (by rw [← Nat.add_assoc]; exact HR3.out)
      obtain rfl := HE1.out rfl
      unfold decO2 at HD
      go_wp2_with fail
      refine (HO2'.out _ HR3'.out).mono ?_
      rintro e w5 ⟨x2, rfl, hx2, hR5, hF5⟩
      have HX5 := Lib.hid (hF5.at HX3.out (show ¬ w.heap.size = g by omega))
      have HR5 := Lib.hid hR5
      have HF5 := Lib.hid (HF3.out.trans hF5 (fun _ _ h => h))
      have HE2 := Lib.hid hx2
      clear hx2 hR5 hF5 HX3 HR3 HR3' HF3 HE1
      generalize oneAt (kb m) ((rest bs p).drop (wd + d1)) = o2 at *
      obtain ⟨a2, c2, d2⟩ := o2
      simp only at HD HR5 HE2 ⊢
      have HR6 : Hid (RefIs w5 g base v bs (p + (wd + d1 + d2))) := Lib.hid (by have := HR5.out; simp only [Nat.add_assoc] at this ⊢; exact this)
      have y0 := blk_cell HX5.out 0
      have y1 := blk_cell HX5.out 1
      have y2 := blk_cell HX5.out 2
      have f0 := blk_frozen HX5.out 0
      have f1 := blk_frozen HX5.out 1
      have f2 := blk_frozen HX5.out 2
      simp only [List.getElem?_toArray, List.getElem?_cons_zero, List.getElem?_cons_succ] at y0 y1 y2
      by_cases hc2 : c2 = 0
      · subst hc2
        obtain rfl := HE2.out rfl
        have HDD : Hid (dR = (((m : Int), x1, x2), 0, wd + d1 + d2)) := Lib.hid (by
          have := HD.out
          rw [if_neg (by simp)] at this
          rw [this]
          rfl)
        have HE := Lib.hid (dec_end (.int .i64 m) (.int .i64 x1) (.int .i64 x2) HX5.out HR6.out HF5.out)
        go_wp2
        refine bodyPost_ret (results_ct rfl _ _ _ w.heap.size _ rfl (run_loadVar_row _ _ 23 23 _ (0, 0) _ HE.out.1 Tryd.underlying23 rfl (by kernel_rfl))) rfl ?_
        rw [HDD.out]
        exact ⟨rfl, HE.out.2.1, HE.out.2.2⟩
      · have hcb : ((c2 : Int) != 0) = true := by rw [bne_iff_ne]; omega
        have HDD : Hid (dR = ((0, 0, 0), c2, wd + d1 + d2)) := Lib.hid (by
          have := HD.out
          rw [if_pos hc2] at this
          rw [this]
          exact if_pos hc2)
        clear hc2
        have HE := Lib.hid (dec_end (.int .i64 0) (.int .i64 0) (.int .i64 0) HX5.out HR6.out HF5.out)
        go_wp2
        refine bodyPost_ret (results_ct rfl _ _ _ w.heap.size _ rfl (run_loadVar_row _ _ 23 23 _ (0, 0) _ HE.out.1 Tryd.underlying23 rfl (by kernel_rfl))) rfl ?_
        rw [HDD.out]
        exact ⟨rfl, HE.out.2.1, HE.out.2.2⟩
    · have hcb : ((c1 : Int) != 0) = true := by rw [bne_iff_ne]; omega
      have HDD : Hid (dR = ((0, 0, 0), c1, wd + d1)) := Lib.hid (by
        have := HD.out
        rw [if_pos hc1] at this
        rw [this]
        exact if_pos hc1)
      clear hc1
      have y0 := blk_cell HX3.out 0
      have y1 := blk_cell HX3.out 1
      have y2 := blk_cell HX3.out 2
      have f0 := blk_frozen HX3.out 0
      have f1 := blk_frozen HX3.out 1
      have f2 := blk_frozen HX3.out 2
      simp only [List.getElem?_toArray, List.getElem?_cons_zero, List.getElem?_cons_succ] at y0 y1 y2
      have HR3' : Hid (RefIs w3 g base v bs (p + (wd + d1))) := Lib.hid (by rw [← Nat.add_assoc]; exact HR3.out)
      have HE := Lib.hid (dec_end (.int .i64 0) (.int .i64 0) (.int .i64 0) HX3.out HR3'.out HF3.out)
      go_wp2
      refine bodyPost_ret (results_ct rfl _ _ _ w.heap.size _ rfl (run_loadVar_row _ _ 23 23 _ (0, 0) _ HE.out.1 Tryd.underlying23 rfl (by kernel_rfl))) rfl ?_
      rw [HDD.out]
      exact ⟨rfl, HE.out.2.1, HE.out.2.2⟩
  · have HD : Hid (decR (rest bs p) = ((0, 0, 0), (readN (rest bs p) 29).2.1, (readN (rest bs p) 29).2.2)) := Lib.hid (if_pos he)
    generalize decR (rest bs p) = dR at *
    generalize readN (rest bs p) 29 = rN at *
    obtain ⟨m, code, wd⟩ := rN
    simp only at HN HD he hcode hm29
    have hcb : ((code : Int) != 0) = true := by rw [bne_iff_ne]; omega
    clear he
    go_enter Tryd.func16, Tryd.ntmps16
    go_wp2_with fail
    refine (HN.out _ HR0.out).mono ?_
    rintro e w1 ⟨rfl, hR1, hF1⟩
    have HR1 := Lib.hid hR1
    have HX1 := Lib.hid (hF1.at HX0.out (show ¬ w.heap.size = g by omega))
    have HF1 := Lib.hid (Fr.trans (S := fun i => i = g) (Fr.of_below HB0.out) hF1 (fun _ _ h => h))
    clear hR1 hF1 HR0 HX0 HB0
    have y0 := blk_cell HX1.out 0
    have y1 := blk_cell HX1.out 1
    have y2 := blk_cell HX1.out 2
    have f0 := blk_frozen HX1.out 0
    have f1 := blk_frozen HX1.out 1
    have f2 := blk_frozen HX1.out 2
    simp only [List.getElem?_toArray, List.getElem?_cons_zero, List.getElem?_cons_succ] at y0 y1 y2
    have HE := Lib.hid (dec_end (.int .i64 0) (.int .i64 0) (.int .i64 0) HX1.out HR1.out HF1.out)
    have HDD := HD
    go_wp2
    refine bodyPost_ret (results_ct rfl _ _ _ w.heap.size _ rfl (run_loadVar_row _ _ 23 23 _ (0, 0) _ HE.out.1 Tryd.underlying23 rfl (by kernel_rfl))) rfl ?_
    rw [HDD.out]
    exact ⟨rfl, HE.out.2.1, HE.out.2.2⟩
end Go.Proofs.YtamagdnlicnefaaDoor
