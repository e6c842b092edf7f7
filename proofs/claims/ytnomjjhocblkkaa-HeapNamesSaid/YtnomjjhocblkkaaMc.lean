/- HeapKeeps' walk. -/
import Derived.Test.YtnomjjhocblkkaaMb
import Derived.Test.YtnomjjhocblkkaaJg
namespace Go.Proofs.Ytnomjjhocblkkaa
open Go.RowKit Go.Shelf Go.Proofs.YtnomjjhocblkkaaW.PrintWords Go.Proofs.YtnomjjhocblkkaaW.PrintLast Go.Proofs.YtnomjjhocblkkaaW.PrintMore
open Go.Proofs.Ytnomjjhocblkkaa.PHeapSound

theorem neq32 (w : World) (x0 y0 x1 y1 : Int) : (binOp .neq 32 (.agg #[.int .i64 x0, .int .i64 x1]) (.agg #[.int .i64 y0, .int .i64 y1])).run Try.prog w = .ok (.bool (!(x0 == y0 && x1 == y1))) w := by
  have h : (Op.equalIn Op.maxDepth 32 (.agg #[.int .i64 x0, .int .i64 x1]) (.agg #[.int .i64 y0, .int .i64 y1])).run Try.prog w = .ok (x0 == y0 && (x1 == y1)) w := Go.Proofs.Ytnomjjhocblkkaa.eqA32 9998 w x0 y0 x1 y1
  simp only [binOp, Op.equal, Sem.run_bind]
  rw [h]
  rfl
theorem neq32_same (w : World) (x0 x1 : Int) : (binOp .neq 32 (.agg #[.int .i64 x0, .int .i64 x1]) (.agg #[.int .i64 x0, .int .i64 x1])).run Try.prog w = .ok (.bool false) w := by
  rw [neq32]; simp
theorem Make_ok {base : Nat} {w : World} {g m : Nat} {H : HM} {R : Nat → Prop} (h : HOwn base w g m H R) (hf : HFit H) (n : Int) (hm : makeC H n = 0) :
    Calls Try.prog 11 #[.pointer (some ⟨g, 0, none⟩), .int .i64 n] w fun e w' => e = .returned (.tuple #[.agg #[.int .i64 2, .int .i64 ((H.objs.length : Int) + 1)], .int .i64 0]) ∧
      (∃ R', HOwn base w' g m (makeH H n) R' ∧ ∀ i, R' i → R i ∨ w.heap.size ≤ i) ∧ Fr (fun k => k = g) w w' := by
  have h2 := Make_any h hf n
  have hv : makeV H n = (2, (H.objs.length : Int) + 1) := by unfold makeV; rw [if_pos hm]
  rw [hv, hm] at h2
  exact h2
theorem Make_not {base : Nat} {w : World} {g m : Nat} {H : HM} {R : Nat → Prop} (h : HOwn base w g m H R) (hf : HFit H) (n : Int) (hm : makeC H n ≠ 0) :
    Calls Try.prog 11 #[.pointer (some ⟨g, 0, none⟩), .int .i64 n] w fun e w' => e = .returned (.tuple #[.agg #[.int .i64 0, .int .i64 0], .int .i64 (makeC H n)]) ∧
      (∃ R', HOwn base w' g m H R' ∧ ∀ i, R' i → R i ∨ w.heap.size ≤ i) ∧ Fr (fun k => k = g) w w' := by
  have h2 := Make_any h hf n
  have hv : makeV H n = (0, 0) := by unfold makeV; rw [if_neg hm]
  have hh : makeH H n = H := by unfold makeH; rw [if_neg hm]
  rw [hv, hh] at h2
  exact h2
theorem Len_made {base : Nat} {w : World} {g m : Nat} {H : HM} {R : Nat → Prop} {n : Int} (h : HOwn base w g m (makeH H n) R) (hm : makeC H n = 0) :
    Calls Try.prog 12 #[.pointer (some ⟨g, 0, none⟩)] w fun e w' => e = .returned (.int .i64 ((H.objs.length : Int) + 1)) ∧ w = w' := by
  have h2 := Len_any h
  rw [make_len hm] at h2
  exact h2

theorem quiet_eq {P : Program} {f : FuncId} {args : Array Value} {w : World} {n : Nat} {v : Value}
    (h : Calls P f args (w.drewN n) fun e w' => e = .returned v ∧ w.drewN n = w') : Calls P f args (w.drewN n) fun e w'' => e = .returned v ∧ ∃ m, w'' = w.drewN m :=
  h.mono fun _ _ ⟨he, hm⟩ => ⟨he, n, hm.symm⟩
theorem keep_new {W W' : World} {o : Obj} (h : Below (W.alloc o).heap.size (W.alloc o) W') : W'.heap[W.heap.size]? = some o :=
  (h.block _ (Array.getElem?_eq_some_iff.1 (World.alloc_heap_new W o)).1).trans (World.alloc_heap_new W o)
theorem keep_newd {W W' : World} {o : Obj} (h : Below (W.alloc o).drew.heap.size (W.alloc o).drew W') : W'.heap[W.heap.size]? = some o :=
  (h.block _ (Array.getElem?_eq_some_iff.1 (World.alloc_heap_new W o)).1).trans (World.alloc_heap_new W o)
theorem keep_old {W W' : World} {i : Nat} {o : Obj} (h : Below W.heap.size W W') (hx : W.heap[i]? = some o) : W'.heap[i]? = some o :=
  (h.block _ (Array.getElem?_eq_some_iff.1 hx).1).trans hx
theorem below_mh {b : Nat} {w W W' : World} {mh : Nat} (hW : Below b w W) (hs : b ≤ W.heap.size) (hm : b ≤ mh) (hF : Fr (fun k => k = mh) W W') : Below b w W' :=
  hW.trans (hF.below hs (fun i hi e => absurd hm (by rw [← e]; exact Nat.not_le.2 hi)))

set_option maxRecDepth 100000 in
set_option maxHeartbeats 4000000 in
theorem keeps_walk (A : Option Addr) (c : Nat) (sh : List (List Int)) (q : Int) (A1 : Option Addr) (c1 : Nat) (ops : List S34) (w : World) (hC : Kd.C (Kd.slice 3 (Kd.int .i64)) w A sh.length sh) (hc : sh.length ≤ c) (hcm : c ≤ 9223372036854775807)
    (hC1 : Kd.C k34 w A1 ops.length ops) (hc1 : ops.length ≤ c1) :
    Calls Try.prog 3 #[.slice A sh.length c, .int .i64 q, .slice A1 ops.length c1] w fun e w' => e = .returned (.bool true) ∧ Below w.heap.size w w' := by
  have HC := Lib.hid (fun W (h : Below w.heap.size w W) => Kd.C_below hC h)
  have HC1 := Lib.hid (fun W (h : Below w.heap.size w W) => Kd.C_below hC1 h)
  have HGr := Lib.hid (fun W (h : Below w.heap.size w W) => great_any A c sh A1 c1 ops W (Kd.C_below hC h) hc hcm (Kd.C_below hC1 h) hc1)
  clear hC hC1
  by_cases hn : newOk sh q = true
  · have HNew := Lib.hid (fun W (h : Below w.heap.size w W) => New_any W A c sh q (HC.out W h) hn)
    have HNG := Lib.hid (new_good hn)
    have hsok : sh.all shapeOk = true := by unfold newOk at hn; simp only [Bool.and_eq_true] at hn; exact hn.2
    have HSok := Lib.hid hsok
    clear hn hsok
    by_cases hg : tooGreat sh ops = true
    · rw [hg] at HGr
      clear hg
      go_enter Try.func3, Try.ntmps3
      go_wp2_with (first | (go_at_call 8; refine (alive_any _).mono ?_; rintro e w1 ⟨rfl, hb⟩; have HB1 := Lib.hid hb; clear hb) | (go_at_call 9; refine (HNew.out _ HB1.out).mono ?_; rintro e w2 ⟨g, m, R, rfl, ho, hR, hb⟩; have HB2 := Lib.hid (below_then HB1.out HB1.out.size hb); clear ho hR hb) | (go_at_call 10; refine (HGr.out _ HB2.out).mono ?_; rintro e w3 ⟨rfl, hd⟩; have HB3 := Lib.hid (below_then HB2.out HB2.out.size (drawn_below hd)); clear hd))
      go_ret
      exact ⟨rfl, HB3.out⟩
    · have hg : tooGreat sh ops = false := by simpa using hg
      have HL := Lib.hid (tooGreat_no hg)
      rw [hg] at HGr
      clear hg
      have hmk := @run_makeMap Try.prog
      go_enter Try.func3, Try.ntmps3
      go_wp2_with (first | (go_at_call 8; refine (alive_any _).mono ?_; rintro e w1 ⟨rfl, hb⟩; have HB1 := Lib.hid hb; clear hb) | (go_at_call 9; refine (HNew.out _ HB1.out).mono ?_; rintro e w2 ⟨g, m, R, rfl, ho, hR, hb⟩; have HB2 := Lib.hid (below_then HB1.out HB1.out.size hb); have HO2 := Lib.hid (ho.lower HB1.out.size); clear ho hR hb) | (go_at_call 10; refine (HGr.out _ HB2.out).mono ?_; rintro e w3 ⟨rfl, hd⟩; have HB3 := Lib.hid (below_then HB2.out HB2.out.size (drawn_below hd)); have HO3 := Lib.hid (HO2.out.below (drawn_below hd)); clear hd))
      clear HO2 HB2 HB1 HNew HGr hmk
      have HMade := Lib.hid (MapIs.made w3)
      have HN : Hid (w3.heap.size ≠ g ∧ w3.heap.size ≠ m ∧ w.heap.size ≤ w3.heap.size) := Lib.hid ⟨Nat.ne_of_gt HO3.out.glt.1, Nat.ne_of_gt HO3.out.glt.2, HB3.out.size⟩
      have HNR := Lib.hid (fun h => Nat.lt_irrefl _ (HO3.out.lt w3.heap.size h))
      have HOm := Lib.hid (HO3.out.below (below_alloc (Below.refl w3.heap.size w3) (.map #[] 0)))
      have HBm := Lib.hid (below_then HB3.out HB3.out.size (below_alloc (Below.refl w3.heap.size w3) (.map #[] 0)))
      clear HO3 HB3
      generalize w3.alloc (.map #[] 0) = w4 at *
      generalize w3.heap.size = mh at *
      go_loopw [48] (fun j wr => ∃ (k : Nat) (H : HM) (R : Nat → Prop) (D : Pairs), j = .int .i64 k ∧ k ≤ ops.length ∧ Aside0 (HOwn w.heap.size wr g m H R) ∧ Aside0 (HGood sh q k H) ∧ Aside0 (CsOk H) ∧ Aside0 (Had D H) ∧ Aside0 (MapIs wr mh D) ∧ Aside0 (¬ R mh) ∧ Aside0 (Below w.heap.size w wr)) (fun j _ => ops.length - (intOf j).toNat)
      case atStart => exact ⟨0, _, _, [], rfl, Nat.zero_le _, Aside0.mk HOm.out, Aside0.mk HNG.out, Aside0.mk (had_new sh q).2, Aside0.mk (had_new sh q).1, Aside0.mk HMade.out, Aside0.mk HNR.out, Aside0.mk HBm.out⟩
      case round =>
        clear HOm HBm HMade HNR HNG
        obtain ⟨k, H, R', D, rfl, hk, HO, HGd, HCs, HHad, HMp, HNR, HB⟩ := hrel
        have hl150 := HL.out
        by_cases hkl : k < ops.length
        · have hkl' : ((k : Int) < (ops.length : Int)) := by omega
          obtain ⟨ad, rfl, x0, x1, x2, x3, x4, x5, x6⟩ := at_T34 (HC1.out _ HB.out) (k : Int) (by omega) (by omega)
          rw [Int.toNat_natCast] at *
          have HK150 := Lib.hid (Nat.lt_of_lt_of_le hkl HL.out)
          generalize rd_T34 ops (k : Int) = o at *
          obtain ⟨f0, f1, f2, ⟨f3, f4⟩, ⟨f5, f6⟩⟩ := o
          simp only at x0 x1 x2 x3 x4 x5 x6
          have hbA := below_alloc (Below.refl wr.heap.size wr) (.cells #[.int .i64 f0, .int .i64 f1, .int .i64 f2, .int .i64 f3, .int .i64 f4, .int .i64 f5, .int .i64 f6] 34)
          have HBA := Lib.hid (below_then HB.out HB.out.size hbA)
          have HOA := Lib.hid (HO.out.below hbA)
          have HMA := Lib.hid (HMp.out.below hbA)
          have HOB := Lib.hid (World.alloc_heap_new wr (.cells #[.int .i64 f0, .int .i64 f1, .int .i64 f2, .int .i64 f3, .int .i64 f4, .int .i64 f5, .int .i64 f6] 34))
          have HNE : Hid (wr.heap.size ≠ g ∧ wr.heap.size ≠ m ∧ wr.heap.size ≠ mh ∧ mh < wr.heap.size) := Lib.hid ⟨Nat.ne_of_gt HO.out.glt.1, Nat.ne_of_gt HO.out.glt.2, Nat.ne_of_gt HMp.out.lt, HMp.out.lt⟩
          clear hbA
          by_cases h0 : f0 = 0
          · subst h0
            by_cases hm : makeC H f1 = 0
            · have HMk := Lib.hid (Make_ok HOA.out HGd.out.fit f1 hm)
              have HM0 := Lib.hid hm
              clear hm
              go_upto_region 13 with (go_at_call 11; refine HMk.out.mono ?_; rintro e w5 ⟨rfl, ⟨R4, ho, hr4⟩, hf⟩; have HB5 := Lib.hid (below_g HBA.out HBA.out.size HOA.out hf); have HO5 := Lib.hid ho; have HM5 := Lib.hid (HMA.out.fr hf HN.out.1); have HR5 := Lib.hid (fun h => (hr4 mh h).elim HNR.out (fun e => absurd (Nat.le_trans (by simp) e) (Nat.not_le.2 HNE.out.2.2.2))); have HOB5 := Lib.hid ((hf.block wr.heap.size (blk_lt HOB.out) HNE.out.1).trans HOB.out); clear ho hr4 hf)
              have hb5 := below_alloc (Below.refl w5.heap.size w5) (.cells #[.int .i64 2, .int .i64 ((H.objs.length : Int) + 1)] 32)
              have HV := Lib.hid (World.alloc_heap_new w5 (.cells #[.int .i64 2, .int .i64 ((H.objs.length : Int) + 1)] 32))
              have HNv : Hid (w5.heap.size ≠ mh) := Lib.hid (Nat.ne_of_gt HM5.out.lt)
              have HO6 := Lib.hid (HO5.out.below hb5)
              have HB6 := Lib.hid (below_then HB5.out HB5.out.size hb5)
              have HM6 := Lib.hid (HM5.out.below hb5)
              have HOB6 := Lib.hid ((hb5.block wr.heap.size (blk_lt HOB5.out)).trans HOB5.out)
              clear hb5 HO5 HB5 HM5 HOB5 HMA HOA HBA HOB HMk
              generalize w5.alloc (.cells #[.int .i64 2, .int .i64 ((H.objs.length : Int) + 1)] 32) = w6 at *
              generalize w5.heap.size = vb at *
              have v0 := blk_cell HV.out 0
              have v1 := blk_cell HV.out 1
              simp only [List.getElem?_toArray, List.getElem?_cons_zero, List.getElem?_cons_succ] at v0 v1
              go_quiet ((go_at_call 12; refine quiet_eq (Len_made (HO6.out.below (pw_below_drewN (Below.refl _ _) _)) HM0.out)))
              have hb7 := pw_below_drewN (Below.refl w6.heap.size w6) nq
              have HO7 := Lib.hid (HO6.out.below hb7)
              have HB7 := Lib.hid (below_then HB6.out HB6.out.size hb7)
              have HM7 := Lib.hid (HM6.out.below hb7)
              have HV7 := Lib.hid ((hb7.block vb (blk_lt HV.out)).trans HV.out)
              have E := (hb7.block wr.heap.size (blk_lt HOB6.out)).trans HOB6.out
              have y1 := blk_cell E 1
              simp only [List.getElem?_toArray, List.getElem?_cons_zero, List.getElem?_cons_succ] at y1
              clear hb7 HO6 HB6 HM6 HV HOB6 E v0 v1
              generalize w6.drewN nq = w7 at *
              obtain ⟨o0, o1, _⟩ := makeC_zero HM0.out
              obtain ⟨o, rfl⟩ := Int.eq_ofNat_of_zero_le o0
              have o1' : (o : Int) < sh.length := by rw [← HGd.out.sh]; exact o1
              obtain ⟨ae, Ae, ce, rfl, e1, hce, hCe⟩ := at_L1 (HC.out w (Below.refl _ _)) (o : Int) o0 o1'
              rw [Int.toNat_natCast] at e1
              have hrl : (rd_L1 sh (o : Int)).length ≤ 16 := HGd.out.fit.row _ (HGd.out.sh.symm ▸ rdL1_in o0 o1')
              have hrow : rd_L1 H.sh (o : Int) = rd_L1 sh (o : Int) := by rw [HGd.out.sh]
              have HRow := Lib.hid hrow
              have HCe := Lib.hid hCe
              have z1 := pw_cell_below HB7.out e1
              clear hCe hrow o1 e1
              obtain ⟨row, hrw⟩ : ∃ row, rd_L1 sh (o : Int) = row := ⟨_, rfl⟩
              rw [hrw] at HRow HCe z1 hce hrl
              clear hrw
              go_wp2
              obtain ⟨wo, rfl⟩ : ∃ wo : World, wo = wr := ⟨_, rfl⟩
              go_loopw [81] (fun i W => ∃ (j : Nat) (D2 : Pairs), i = .int .i64 j ∧ j ≤ row.length ∧ Aside0 (HOwn w.heap.size W g m (makeH H (o : Int)) R4) ∧ Aside0 (MapIs W mh D2) ∧ Aside0 (HadMid D2 H row j) ∧ Aside0 (Below w.heap.size w W) ∧ Aside0 (W.heap[vb]? = some (.cells #[.int .i64 2, .int .i64 ((H.objs.length : Int) + 1)] 32 (0, 0)))) (fun i _ => row.length - (intOf i).toNat)
              case atStart => exact ⟨0, D, rfl, Nat.zero_le _, Aside0.mk HO7.out, Aside0.mk HM7.out, Aside0.mk (mid_start HHad.out row), Aside0.mk HB7.out, Aside0.mk HV7.out⟩
              case round =>
                clear HO7 HM7 HB7 HV7 y1 z1
                obtain ⟨j, D2, rfl, hj, HO, HMp, HMid, HB, HV⟩ := hrel
                by_cases hjl : j < row.length
                · have hjl' : ((j : Int) < (row.length : Int)) := by omega
                  obtain ⟨af, rfl, e2⟩ := Kd.at_int HCe.out (j : Int) (by omega) hjl'
                  rw [Int.toNat_natCast] at e2
                  have z2 := pw_cell_below HB.out e2
                  have v1 := blk_cell HV.out 1
                  simp only [List.getElem?_toArray, List.getElem?_cons_zero, List.getElem?_cons_succ] at v1
                  have HMs := Lib.hid (mid_step HMid.out)
                  clear e2
                  generalize rd row (j : Int) = rj at *
                  go_wp2_with (at_mapUpdate; refine wpList_update_is _ rfl _ _ _ 30 rfl key41 Try.underlying30 mh D2 rfl HMp.out ((H.objs.length : Int) + 1) (j : Int) rj 0 rfl rfl ?_; intro w8 hm8 hf8; have HM8 := Lib.hid hm8; have HO8 := Lib.hid (HO.out.fr hf8 (Ne.symm HN.out.1) (Ne.symm HN.out.2.1) (fun i hi (e : i = mh) => HR5.out (e ▸ hi))); have HB8 := Lib.hid (below_mh HB.out HB.out.size HN.out.2.2 hf8); have HV8 := Lib.hid ((hf8.block vb (blk_lt HV.out) HNv.out).trans HV.out); clear hm8 hf8)
                  go_roundw
                  case rel => exact ⟨j + 1, _, by go_num, by omega, Aside0.mk HO8.out, Aside0.mk HM8.out, Aside0.mk HMs.out, Aside0.mk HB8.out, Aside0.mk HV8.out⟩
                  case measure => simp [intOf]; omega
                · obtain rfl : j = row.length := by omega
                  go_wp2
                  go_roundw
                  case rel => exact ⟨k + 1, _, R4, D2, by go_num, by omega, Aside0.mk HO.out, Aside0.mk (HGd.out.make (o : Int) HK150.out), Aside0.mk (make_csok HM0.out HCs.out), Aside0.mk (mid_end HM0.out HCs.out (by rw [HRow.out]; exact HMid.out)), Aside0.mk HMp.out, Aside0.mk HR5.out, Aside0.mk HB.out⟩
                  case measure => simp [intOf]; omega
            · have HMk := Lib.hid (Make_not HOA.out HGd.out.fit f1 hm)
              obtain ⟨cm, hcm⟩ : ∃ cm, makeC H f1 = cm := ⟨_, rfl⟩
              rw [hcm] at hm HMk
              have hcm0 : (cm != 0) = true := by simpa using hm
              clear hm hcm
              go_wp2_with (go_at_call 11; refine HMk.out.mono ?_; rintro e w5 ⟨rfl, ⟨R4, ho, hr4⟩, hf⟩; have hb5 := below_alloc (Below.refl w5.heap.size w5) (.cells #[.int .i64 0, .int .i64 0] 32); have HB5 := Lib.hid (below_then (below_g HBA.out HBA.out.size HOA.out hf) (below_g HBA.out HBA.out.size HOA.out hf).size hb5); have HO5 := Lib.hid (ho.below hb5); have HM5 := Lib.hid ((HMA.out.fr hf HN.out.1).below hb5); have HR5 := Lib.hid (fun h => (hr4 mh h).elim HNR.out (fun e => absurd (Nat.le_trans (by simp) e) (Nat.not_le.2 HNE.out.2.2.2))); clear ho hr4 hf hb5)
              go_roundw
              case rel => exact ⟨k + 1, H, R4, D, by go_num, by omega, Aside0.mk HO5.out, Aside0.mk (HGd.out.mono (Nat.le_succ k)), HCs, HHad, Aside0.mk HM5.out, Aside0.mk HR5.out, Aside0.mk HB5.out⟩
              case measure => simp [intOf]; omega
          · by_cases h2 : f0 = 2
            · subst h2
              clear h0
              by_cases hs : setR H f3 f4 f1 f5 f6 = (0, 0)
              · obtain ⟨u, hu, hh, hcs⟩ := had_set HHad.out HCs.out hs
                have HSt := Lib.hid (Set_any HOA.out HGd.out.fit f3 f4 f1 f5 f6)
                rw [hs] at HSt
                have HU := Lib.hid hu
                have HH := Lib.hid hh
                have HCS := Lib.hid hcs
                clear hs hu hh hcs
                go_wp2_with (first | (go_at_call 13; refine HSt.out.mono ?_; rintro e w5 ⟨rfl, ho, hf⟩; have HB5 := Lib.hid (below_m HBA.out HBA.out.size HOA.out hf); have HO5 := Lib.hid ho; have HM5 := Lib.hid (HMA.out.fr hf HN.out.2.1); have E := (hf.block wr.heap.size (blk_lt HOB.out) HNE.out.2.1).trans HOB.out; have y0 := blk_cell E 0; have y1 := blk_cell E 1; have y3 := blk_cell E 3; have y4 := blk_cell E 4; have y5 := blk_cell E 5; have y6 := blk_cell E 6; simp only [List.getElem?_toArray, List.getElem?_cons_zero, List.getElem?_cons_succ] at y0 y1 y3 y4 y5 y6; clear ho hf E) | (at_lookup; refine wpList_look_is _ rfl _ _ 30 rfl key41 Try.underlying30 mh D rfl HM5.out f4 f1 f5 u rfl HU.out ?_; have hb6 := below_alloc (Below.refl w5.heap.size w5) (.cells #[.int .i64 f5, .int .i64 u] 32); have t1 := pw_cell_below hb6 y1; have t4 := pw_cell_below hb6 y4; have t5 := pw_cell_below hb6 y5; have t6 := pw_cell_below hb6 y6; clear hb6) | (at_mapUpdate; refine wpList_update_is _ rfl _ _ _ 30 rfl key41 Try.underlying30 mh D rfl (HM5.out.below (below_alloc (Below.refl _ _) _)) f4 f1 f5 f6 rfl rfl ?_; intro w8 hm8 hf8; have hb6 := below_alloc (Below.refl w5.heap.size w5) (.cells #[.int .i64 f5, .int .i64 u] 32); have HM8 := Lib.hid hm8; have HO8 := Lib.hid ((HO5.out.below hb6).fr hf8 (Ne.symm HN.out.1) (Ne.symm HN.out.2.1) (fun i hi (e : i = mh) => HNR.out (e ▸ hi))); have HB8 := Lib.hid (below_mh (below_then HB5.out HB5.out.size hb6) (below_then HB5.out HB5.out.size hb6).size HN.out.2.2 hf8); clear hm8 hf8 hb6))
                go_roundw
                case rel => exact ⟨k + 1, _, R', _, by go_num, by omega, Aside0.mk HO8.out, Aside0.mk ((HGd.out.set f3 f4 f1 f5 f6).mono (Nat.le_succ k)), Aside0.mk HCS.out, Aside0.mk HH.out, Aside0.mk HM8.out, HNR, Aside0.mk HB8.out⟩
                case measure => simp [intOf]; omega
              · have hsn := set_not hs
                have hst := Set_any HOA.out HGd.out.fit f3 f4 f1 f5 f6
                rw [hsn] at hst
                obtain ⟨⟨cc, ff⟩, hcf⟩ : ∃ p, setR H f3 f4 f1 f5 f6 = p := ⟨_, rfl⟩
                rw [hcf] at hst hs
                have HSt := Lib.hid hst
                clear hst hcf hsn
                by_cases hc0 : cc = 0
                · subst hc0
                  have hf0 : (ff == 0) = false := by simpa using hs
                  clear hs
                  go_wp2_with (go_at_call 13; refine HSt.out.mono ?_; rintro e w5 ⟨rfl, ho, hf⟩; have HB5 := Lib.hid (below_m HBA.out HBA.out.size HOA.out hf); have HO5 := Lib.hid ho; have HM5 := Lib.hid (HMA.out.fr hf HN.out.2.1); have E := (hf.block wr.heap.size (blk_lt HOB.out) HNE.out.2.1).trans HOB.out; have y0 := blk_cell E 0; have y1 := blk_cell E 1; have y3 := blk_cell E 3; have y4 := blk_cell E 4; have y5 := blk_cell E 5; have y6 := blk_cell E 6; simp only [List.getElem?_toArray, List.getElem?_cons_zero, List.getElem?_cons_succ] at y0 y1 y3 y4 y5 y6; clear ho hf E)
                  go_roundw
                  case rel => exact ⟨k + 1, H, R', D, by go_num, by omega, Aside0.mk HO5.out, Aside0.mk (HGd.out.mono (Nat.le_succ k)), HCs, HHad, Aside0.mk HM5.out, HNR, Aside0.mk HB5.out⟩
                  case measure => simp [intOf]; omega
                · have hf0 : (cc == 0) = false := by simpa using hc0
                  clear hs hc0
                  go_wp2_with (go_at_call 13; refine HSt.out.mono ?_; rintro e w5 ⟨rfl, ho, hf⟩; have HB5 := Lib.hid (below_m HBA.out HBA.out.size HOA.out hf); have HO5 := Lib.hid ho; have HM5 := Lib.hid (HMA.out.fr hf HN.out.2.1); have E := (hf.block wr.heap.size (blk_lt HOB.out) HNE.out.2.1).trans HOB.out; have y0 := blk_cell E 0; have y1 := blk_cell E 1; have y3 := blk_cell E 3; have y4 := blk_cell E 4; have y5 := blk_cell E 5; have y6 := blk_cell E 6; simp only [List.getElem?_toArray, List.getElem?_cons_zero, List.getElem?_cons_succ] at y0 y1 y3 y4 y5 y6; clear ho hf E)
                  go_roundw
                  case rel => exact ⟨k + 1, H, R', D, by go_num, by omega, Aside0.mk HO5.out, Aside0.mk (HGd.out.mono (Nat.le_succ k)), HCs, HHad, Aside0.mk HM5.out, HNR, Aside0.mk HB5.out⟩
                  case measure => simp [intOf]; omega
            · have h0' : (f0 == 0) = false := by simpa using h0
              have h2' : (f0 == 2) = false := by simpa using h2
              go_wp2
              go_roundw
              case rel => exact ⟨k + 1, H, R', D, by go_num, by omega, Aside0.mk HOA.out, Aside0.mk (HGd.out.mono (Nat.le_succ k)), HCs, HHad, Aside0.mk HMA.out, HNR, Aside0.mk HBA.out⟩
              case measure => simp [intOf]; omega
        · have husd := Used_any HO.out
          rw [← HHad.out.len] at husd
          have HUs := Lib.hid husd
          have HNr : Hid (wr.heap.size ≠ g ∧ wr.heap.size ≠ m ∧ ¬ R' wr.heap.size ∧ w.heap.size ≤ wr.heap.size) := Lib.hid ⟨Nat.ne_of_gt HO.out.glt.1, Nat.ne_of_gt HO.out.glt.2, fun h => Nat.lt_irrefl _ (HO.out.lt _ h), HB.out.size⟩
          have hD1 : D.length ≤ 1048576 := by have h1 := HHad.out.len; have h2 := HGd.out.fit.used; have h3 := HGd.out.fit.quota; omega
          have HGt := Lib.hid (fun (n i a b : Int) (hm : ((n, i), (a, b)) ∈ D) (W : World) (ho : HOwn w.heap.size W g m H R') => (show Calls Try.prog 15 #[.pointer (some ⟨g, 0, none⟩), .agg #[.int .i64 2, .int .i64 n], .int .i64 i, .int .i64 a] W fun e w' => e = .returned (.tuple #[.agg #[.int .i64 a, .int .i64 b], .int .i64 0, .int .i64 0]) ∧ Below W.heap.size W w' from by
            have h2 := Get_any ho HGd.out.fit 2 n i a
            rw [had_get HHad.out HCs.out HGd.out.fit (by rw [HGd.out.sh]; exact HSok.out) hm] at h2
            exact h2))
          clear husd HC HC1
          obtain ⟨wo, rfl⟩ : ∃ wo : World, wo = wr := ⟨_, rfl⟩
          go_wp2_with (first | (go_at_call 14; refine HUs.out.mono ?_; rintro e w' ⟨rfl, rfl⟩) | (at_len; refine wpList_len_is _ rfl _ 30 rfl Try.underlying30 mh D rfl HMp.out ?_) | (at_range; refine wpList_range_is _ rfl 30 _ rfl Try.underlying30 mh D rfl HMp.out ?_; intro w5 hr5 hb5 hs5; have HR5 := Lib.hid hr5; have HO5 := Lib.hid (HO.out.below hb5); have HB5 := Lib.hid (below_then HB.out HB.out.size hb5); clear hr5 hb5 hs5))
          go_frame
          clear HUs HMp HO HB hD1
          generalize wo.heap.size = r at *
          go_loopw [151] (fun _ W => ∃ cnt : Nat, Aside0 (RangeIs W mh r D cnt) ∧ Aside0 (HOwn w.heap.size W g m H R') ∧ Aside0 (Below w.heap.size w W)) (fun _ W => W.rangeLeft mh r)
          case atStart => exact ⟨_, Aside0.mk HR5.out, Aside0.mk HO5.out, Aside0.mk HB5.out⟩
          case round =>
            clear HR5 HO5 HB5
            obtain ⟨cnt, HRg, HO, HB⟩ := hrel
            go_wp2_with (first | (at_next; refine wpList_next_is _ rfl _ rfl mh r D cnt rfl HRg.out ?_ ?_) | go_in)
            · go_wp2
              go_ret
              exact ⟨rfl, HB.out⟩
            · intro n i ta vb w6 cnt' hmem hrg hlt hfr hen
              have HGt' := Lib.hid (HGt.out n i ta vb hmem)
              have HRg6 := Lib.hid hrg
              have HO6 := Lib.hid (HO.out.fr hfr (Ne.symm HNr.out.1) (Ne.symm HNr.out.2.1) (fun j hj (e : j = r) => HNr.out.2.2.1 (e ▸ hj)))
              have HB6 := Lib.hid (below_mh HB.out HB.out.size HNr.out.2.2.2 hfr)
              clear hmem hrg hfr
              go_upto_region 33 with (fail)
              have hb7 := below_alloc (below_alloc (Below.refl w6.heap.size w6) (.cells #[.int .i64 n, .int .i64 i] 41)) (.cells #[.int .i64 ta, .int .i64 vb] 32)
              have hk1 := (World.alloc_heap_old' (w6.alloc (.cells #[.int .i64 n, .int .i64 i] 41)) (.cells #[.int .i64 ta, .int .i64 vb] 32) (i := w6.heap.size) (by simp)).trans (World.alloc_heap_new w6 _)
              have hk2 := World.alloc_heap_new (w6.alloc (.cells #[.int .i64 n, .int .i64 i] 41)) (.cells #[.int .i64 ta, .int .i64 vb] 32)
              rw [World.size_alloc] at hk2
              have HO7 := Lib.hid (HO6.out.below hb7)
              have HB7 := Lib.hid (below_then HB6.out HB6.out.size hb7)
              have HRg7 := Lib.hid (HRg6.out.below hb7)
              clear hb7 HO6 HB6 HRg6 hen
              generalize (w6.alloc (.cells #[.int .i64 n, .int .i64 i] 41)).alloc (.cells #[.int .i64 ta, .int .i64 vb] 32) = w7 at *
              have d0 := blk_cell hk1 0
              have d1 := blk_cell hk1 1
              have d2 := blk_cell hk2 0
              have d3 := blk_cell hk2 1
              simp only [List.getElem?_toArray, List.getElem?_cons_zero, List.getElem?_cons_succ] at d0 d1 d2 d3
              generalize w6.heap.size = kb at *
              have HS := Lib.hid (fun (W : World) (h : Below w7.heap.size w7 W) => (⟨pw_cell_below h d0, pw_cell_below h d1, pw_cell_below h d2, pw_cell_below h d3, h⟩ : W.cell? ⟨kb, 0, none⟩ = some (.int .i64 n) ∧ W.cell? ⟨kb, 1, none⟩ = some (.int .i64 i) ∧ W.cell? ⟨kb + 1, 0, none⟩ = some (.int .i64 ta) ∧ W.cell? ⟨kb + 1, 1, none⟩ = some (.int .i64 vb) ∧ Below w7.heap.size w7 W))
              have HW := Lib.hid (Below.refl w7.heap.size w7)
              clear hk1 hk2 d0 d1 d2 d3
              go_region_held3 (fun W => W.cell? ⟨kb, 0, none⟩ = some (.int .i64 n) ∧ W.cell? ⟨kb, 1, none⟩ = some (.int .i64 i) ∧ W.cell? ⟨kb + 1, 0, none⟩ = some (.int .i64 ta) ∧ W.cell? ⟨kb + 1, 1, none⟩ = some (.int .i64 vb) ∧ Below w7.heap.size w7 W) ((refine HS.out _ ?_; repeat (first | exact HW.out | apply below_drew | apply below_alloc | refine Below.setCell ?_ (by first | (simp; done) | (simp; omega) | omega) _))) (((first | (go_at_call 16; (with_reducible refine (ref_any _ _).mono ?_)) | (go_at_call 15; (with_reducible refine (HGt'.out _ (HO7.out.below (by repeat (first | exact HW.out | apply below_drew | apply below_alloc)))).mono ?_))); rintro e w_ ⟨rfl, hb_⟩; have HW_ : Hid (Below w7.heap.size w7 w_) := Lib.hid (below_step (by repeat (first | exact HW.out | apply below_drew | apply below_alloc)) hb_); clear HW; have HW := HW_; clear HW_; have hsz_ := HW.out.size; (first | (have hx_ := keep_newd hb_; have q0 := blk_cell hx_ 0; have q1 := blk_cell hx_ 1; have f0 := blk_frozen hx_ 0; have f1 := blk_frozen hx_ 1; have HX := Lib.hid hx_; clear hx_; simp only [List.getElem?_toArray, List.getElem?_cons_zero, List.getElem?_cons_succ] at q0 q1) | (have hx_ := keep_new hb_; have q0 := blk_cell hx_ 0; have q1 := blk_cell hx_ 1; have f0 := blk_frozen hx_ 0; have f1 := blk_frozen hx_ 1; have HX := Lib.hid hx_; clear hx_; simp only [List.getElem?_toArray, List.getElem?_cons_zero, List.getElem?_cons_succ] at q0 q1) | (have hx_ := keep_old hb_ HX.out; clear HX; have q0 := blk_cell hx_ 0; have q1 := blk_cell hx_ 1; have f0 := blk_frozen hx_ 0; have f1 := blk_frozen hx_ 1; simp only [List.getElem?_toArray, List.getElem?_cons_zero, List.getElem?_cons_succ] at q0 q1; have HX := Lib.hid hx_; clear hx_) | skip); clear hb_))
              all_goals
                go_split_ands
                rename Below w7.heap.size w7 _ => hb9
                have HB9 := Lib.hid (below_then HB7.out HB7.out.size hb9)
                have HO9 := Lib.hid (HO7.out.below hb9)
                have HRg9 := Lib.hid (HRg7.out.below hb9)
                clear hb9
                first
                  | (have hx_ := blk_set (blk_set HX.out 0 (.int .i64 ta)) 1 (.int .i64 vb)
                     simp only [List.setIfInBounds_toArray, List.set_cons_zero, List.set_cons_succ] at hx_
                     have x0 := blk_cell hx_ 0
                     have x1 := blk_cell hx_ 1
                     simp only [List.getElem?_toArray, List.getElem?_cons_zero, List.getElem?_cons_succ] at x0 x1
                     clear hx_)
                  | (have hx_ := World.alloc_heap_new w_ (.cells #[.int .i64 ta, .int .i64 vb] 32)
                     have x0 := blk_cell hx_ 0
                     have x1 := blk_cell hx_ 1
                     simp only [List.getElem?_toArray, List.getElem?_cons_zero, List.getElem?_cons_succ] at x0 x1
                     clear hx_)
                have hneq := fun W => neq32_same W ta vb
                go_wp2
                go_roundw
                case rel => exact ⟨cnt', Aside0.mk HRg9.out, Aside0.mk HO9.out, Aside0.mk HB9.out⟩
                case measure => rw [HRg9.out.left, HRg.out.left]; exact hlt
  · have hn : newOk sh q = false := by simpa using hn
    have HNew := Lib.hid (fun W (h : Below w.heap.size w W) => New_bad W A c sh q (HC.out W h) hn)
    clear hn
    obtain ⟨b, hb⟩ : ∃ b, tooGreat sh ops = b := ⟨_, rfl⟩
    rw [hb] at HGr
    clear hb
    go_enter Try.func3, Try.ntmps3
    cases b <;>
    (go_wp2_with (first | (go_at_call 8; refine (alive_any _).mono ?_; rintro e w1 ⟨rfl, hb⟩; have HB1 := Lib.hid hb; clear hb) | (go_at_call 9; refine (HNew.out _ HB1.out).mono ?_; rintro e w2 ⟨rfl, hb⟩; have HB2 := Lib.hid (below_then HB1.out HB1.out.size hb); clear hb) | (go_at_call 10; refine (HGr.out _ HB2.out).mono ?_; rintro e w3 ⟨rfl, hd⟩; have HB3 := Lib.hid (below_then HB2.out HB2.out.size (drawn_below hd)); clear hd))
     go_ret
     exact ⟨rfl, HB3.out⟩)
end Go.Proofs.Ytnomjjhocblkkaa
