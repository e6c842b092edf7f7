/- VaryReads: walk. -/
import Derived.Test.YtpiainanlmpieaaVs
import Derived.Test.YtpiainanlmpieaaVj
import Derived.Test.YtpiainanlmpieaaVt
import Derived.Deep.DeepCutAuto
import Derived.Deep.CutBlock
namespace Go.Proofs.Ytpiainanlmpieaa
open Go.RowKit Go.Shelf Go.Proofs.YtpiainanlmpieaaW.PrintWords Go.Proofs.YtpiainanlmpieaaW.PrintLast Go.Proofs.YtpiainanlmpieaaW.PrintMore
open Go.Proofs.Ytpiainanlmpieaa.Pgreat

theorem quiet_eq' {P : Program} {f : FuncId} {args : Array Value} {w : World} {n : Nat} {v : Value}
    (h : Calls P f args (w.drewN n) fun e w' => e = .returned v ∧ w.drewN n = w') : Calls P f args (w.drewN n) fun e w'' => e = .returned v ∧ ∃ m, w'' = w.drewN m :=
  h.mono fun _ _ ⟨he, hm⟩ => ⟨he, n, hm.symm⟩
theorem readR_len (bs : List Int) (p : Nat) (n : Int) : (readR bs p n).1.length ≤ bs.length := by
  unfold readR
  repeat' split
  all_goals simp [List.length_drop, List.length_take]
  all_goals omega
theorem readB_len (bs : List Int) (p : Nat) (n : Int) : (readB bs p n).1.length ≤ bs.length := by
  unfold readB
  repeat' split
  all_goals simp [List.length_drop, List.length_take]
  all_goals omega
theorem bsz' {b : Nat} {w1 W : World} (e : w1.heap.size = b) (h : Below b w1 W) : b ≤ W.heap.size := e ▸ h.size

theorem below_fr {b g : Nat} {w1 w w' : World} (e : w1.heap.size = b) (h : Below b w1 w) (hF : Fr (fun i => i = g) w w') (hg : b ≤ g) : Below b w1 w' :=
  h.trans (hF.below (bsz' e h) (fun i hi he => by omega))

set_option maxRecDepth 100000 in
set_option maxHeartbeats 4000000 in
theorem reads_walk (B : Option Addr) (cb : Nat) (bs : List Int) (A : Option Addr) (c : Nat) (ops : List S35) (w : World) (hb : (Kd.int .u8).C w B bs.length bs) (hlb : bs.length ≤ cb) (hbb : ∀ b ∈ bs, 0 ≤ b ∧ b ≤ 255)
    (hC : Kd.C k35 w A ops.length ops) (hlc : ops.length ≤ c) (hcm : c ≤ 9223372036854775807) (hfit : ∀ o ∈ ops, OpFits o) :
    Calls Try.prog 7 #[.slice B bs.length cb, .slice A ops.length c] w fun e w' => e = .returned (.bool true) ∧ Below w.heap.size w w' := by
  have HG := Lib.hid (great_any A c ops w hC hlc hcm hfit)
  have HC := Lib.hid hC
  have HFit := Lib.hid hfit
  have HBS := Lib.hid hb
  have HBB := Lib.hid hbb
  clear hC hfit hb hbb
  by_cases hg : tooGreat ops = true
  · rw [hg] at HG
    go_enter Try.func7, Try.ntmps7
    go_wp2_with (go_at_call 14; refine HG.out.mono ?_; rintro e w1 ⟨rfl, m1, rfl⟩)
    go_ret
    exact ⟨rfl, pw_below_drewN (Below.refl _ _) _⟩
  · have hg : tooGreat ops = false := by simpa using hg
    obtain ⟨hl, _⟩ := tooGreat_no hg
    rw [hg] at HG
    clear hg
    by_cases hbig : 20000 < bs.length
    · have hbig' : (20000 : Int) < (bs.length : Int) := by omega
      go_enter Try.func7, Try.ntmps7
      go_wp2_with (go_at_call 14; refine HG.out.mono ?_; rintro e w1 ⟨rfl, m1, rfl⟩)
      go_ret
      exact ⟨rfl, pw_below_drewN (Below.refl _ _) _⟩
    · have hbig' : ¬ (20000 : Int) < (bs.length : Int) := by omega
      go_enter Try.func7, Try.ntmps7
      go_wp2_with (go_at_call 14; refine HG.out.mono ?_; rintro e w1 ⟨rfl, m1, rfl⟩)
      have hB0 := pw_below_drewN (Below.refl w.heap.size w) m1
      have hC1 := Lib.hid (Kd.C_below HC.out hB0)
      have hb1 := Lib.hid (Kd.C_below HBS.out hB0)
      have hB1 := Lib.hid hB0
      have hsz : (w.drewN m1).heap.size = w.heap.size := by simp
      have HSZ := Lib.hid hsz
      clear hsz hB0
      generalize w.drewN m1 = w1 at *
      refine (Twin_any B cb bs w1 hb1.out hlb (by omega)).mono ?_
      rintro e w2 ⟨v5, rfl, ho5, hb2⟩
      obtain ⟨A5, c5, rfl⟩ := own_slice ho5
      have HO5 := Lib.hid ho5
      have HB2 := Lib.hid hb2
      clear ho5 hb2
      go_wp2_with fail
      refine (On_any A5 c5 bs w2 (row_C HO5.out).2.2 (by omega) HBB.out).mono ?_
      rintro e w3 ⟨g, rv, rfl, hg2, hR3, hb3⟩
      have HR3 := Lib.hid hR3
      have HG3 := Lib.hid hg2
      have HB3 := Lib.hid (below_then HB2.out HB2.out.size hb3)
      have HO53 := Lib.hid (pw_own_below HO5.out hb3)
      clear hR3 hg2 hb3
      go_wp2_with fail
      refine (Twin_any B cb bs w3 (Kd.C_below hb1.out HB3.out) hlb (by omega)).mono ?_
      rintro e w4 ⟨v7, rfl, ho7, hb4⟩
      obtain ⟨A7, c7, rfl⟩ := own_slice ho7
      have HO7 := Lib.hid ho7
      have HB4 := Lib.hid (below_then HB3.out HB3.out.size hb4)
      have HR4 := Lib.hid (HR3.out.below hb4)
      have HO54 := Lib.hid (pw_own_below HO53.out hb4)
      clear ho7 hb4
      have hsv : RefIs (w4.alloc (.cells #[.slice A7 bs.length c7, .int .i64 0] 56)) w4.heap.size w3.heap.size (.slice A7 bs.length c7) bs 0 := ⟨World.alloc_heap_new _ _, pw_own_below HO7.out (below_alloc (Below.refl _ _) _), Nat.zero_le _, by omega, HBB.out⟩
      have hA0 : RAt (w4.alloc (.cells #[.slice A7 bs.length c7, .int .i64 0] 56)) g w4.heap.size w2.heap.size w3.heap.size rv (.slice A7 bs.length c7) bs 0 := ⟨HR4.out.below (below_alloc (Below.refl _ _) _), hsv⟩
      have hO0 : ROwn (w4.alloc (.cells #[.slice A7 bs.length c7, .int .i64 0] 56)) g w4.heap.size w1.heap.size rv (.slice A7 bs.length c7) (.slice A5 bs.length c5) bs := by
        refine ⟨pw_own_below HO54.out (below_alloc (Below.refl _ _) _), fun b hb => ?_⟩
        have h1 := (World.ownsRow.lt HO5.out b hb).2
        have h2 := HG3.out
        have h3 : w2.heap.size ≤ w3.heap.size := by
          have := (World.ownsRow.lt HO53.out b hb).2
          have := blk_lt HR3.out.blk
          omega
        have h4 := (World.ownsRow.lt HO54.out b hb).2
        refine ⟨by omega, by omega, fun e => ?_, fun e => ?_⟩
        · have := (World.ownsRow.lt HR3.out.own b e).1; omega
        · have := (World.ownsRow.lt HO7.out b e).1; omega
      have hB5 : Below w1.heap.size w1 (w4.alloc (.cells #[.slice A7 bs.length c7, .int .i64 0] 56)) := below_then HB4.out HB4.out.size (below_alloc (Below.refl _ _) _)
      have HGH0 : Hid (w1.heap.size ≤ g ∧ w1.heap.size ≤ w4.heap.size) := Lib.hid ⟨Nat.le_trans HB2.out.size HG3.out, HB4.out.size⟩
      have HSM : Hid (bs.length < 140737488355328) := Lib.hid (by omega)
      have HA0 := Lib.hid hA0
      have HO0 := Lib.hid hO0
      have HB5 := Lib.hid hB5
      clear hsv hA0 hO0 hB5
      go_wp2
      obtain ⟨h, hh⟩ : ∃ h, w4.heap.size = h := ⟨_, rfl⟩
      rw [hh] at HA0 HO0 HGH0 ⊢
      generalize w2.heap.size = b1 at HA0
      generalize w3.heap.size = b2 at HA0
      obtain ⟨sv, hsv⟩ : ∃ sv, Value.slice A7 bs.length c7 = sv := ⟨_, rfl⟩
      clear hh HR4 HO54 HB4 HR3 HG3 HB3 HO53 HO5 HB2
      generalize w4.alloc (.cells #[.slice A7 bs.length c7, .int .i64 0] 56) = w5 at *
      rw [hsv] at HA0 HO0
      clear hsv
      go_loopw [46] (fun i W => ∃ (j : Nat) (zs : List Int), i = .int .i64 j ∧ j ≤ bs.length ∧ zs.length = bs.length ∧ Aside0 (RAt W g h b1 b2 rv sv bs 0) ∧ Aside0 (ROwn W g h w1.heap.size rv sv (.slice A5 bs.length c5) zs) ∧ Aside0 (Below w1.heap.size w1 W)) (fun i _ => bs.length - (intOf i).toNat)
      case atStart => exact ⟨0, _, rfl, Nat.zero_le _, rfl, Aside0.mk HA0.out, Aside0.mk HO0.out, Aside0.mk HB5.out⟩
      case round =>
        obtain ⟨j, zs, rfl, hj, hzs, HAj, HOj, HBj⟩ := hrel
        by_cases hjl : j < bs.length
        · have hjl' : ((j : Int) < ((bs.length : Nat) : Int)) := by omega
          obtain ⟨g6, hA6, _, hg6, hg6s, hcl, hfr⟩ := HOj.out.at_ j (by omega)
          obtain rfl := hA6
          generalize zs.getD j 0 = z at *
          have HZS := Lib.hid hzs
          clear hzs
          go_wp2
          go_roundw
          case rel =>
            have ho : ROwn wr g h w1.heap.size rv sv (.slice (some ⟨g6, 0, none⟩) zs.length c5) zs := by rw [HZS.out]; exact HOj.out
            have h2 := ROwn.put ho HAj.out j ((z + 1) % 256)
            rw [HZS.out] at h2
            exact ⟨j + 1, zs.set j ((z + 1) % 256), by go_num, by omega, by rw [List.length_set]; exact HZS.out, Aside0.mk h2.2, Aside0.mk h2.1, Aside0.mk (HBj.out.setCell (show w1.heap.size ≤ g6 from hg6) _)⟩
          case measure => exact (show bs.length - ((j : Int) + 1).toNat < bs.length - (j : Int).toNat by omega)
        · obtain rfl : j = bs.length := by omega
          have hjl' : ¬ (((bs.length : Nat) : Int) < ((bs.length : Nat) : Int)) := by omega
          have HAj2 := Lib.hid HAj.out
          have HBj2 := Lib.hid HBj.out
          clear HOj HAj HBj hzs hj hjl hjl'
          have HGH := HGH0
          go_wp2
          go_loopw [58] (fun i W => ∃ (k q : Nat), i = .int .i64 k ∧ k ≤ ops.length ∧ Aside0 (RAt W g h b1 b2 rv sv bs q) ∧ Aside0 (Below w1.heap.size w1 W)) (fun i _ => ops.length - (intOf i).toNat)
          case atStart => exact ⟨0, 0, rfl, Nat.zero_le _, Aside0.mk HAj2.out, Aside0.mk HBj2.out⟩
          case round =>
            clear HAj2 HBj2
            obtain ⟨k, q, rfl, hk, HA, HB⟩ := hrel
            by_cases hkl : k < ops.length
            · have hkl' : ((k : Int) < (ops.length : Int)) := by omega
              obtain ⟨ad, A5, c5, rfl, hx0, hx1, hx2, hx3, hx4, hx5, hl5, hi5⟩ := at_T35 hC1.out (k : Int) (by omega) (by omega)
              have eo : rd_T35 ops (k : Int) = ops[k] := by
                unfold rd_T35
                rw [Int.toNat_natCast, List.getD_eq_getElem?_getD, List.getElem?_eq_getElem hkl]
                rfl
              have hf := HFit.out ops[k] (List.getElem_mem hkl)
              rw [eo] at hx0 hx1 hx2 hx3 hx4 hx5 hl5 hi5
              clear eo hx5 hl5 hi5
              generalize ops[k] = o at *
              obtain ⟨f0, f1, f2, f3, f4, f5⟩ := o
              obtain ⟨bb0, bb1, bb2, bb3, bb4, _, _⟩ := hf
              simp only at *
              simp only [Int.toNat_natCast] at *
              have HX := Lib.hid (fun W (h : Below w1.heap.size w1 W) => And.intro (pw_cell_below h hx0) (And.intro (pw_cell_below h hx1) (And.intro (pw_cell_below h hx2) (And.intro (pw_cell_below h hx3) (pw_cell_below h hx4)))))
              clear hx0 hx1 hx2 hx3 hx4
              obtain ⟨y0, y1, y2, y3, y4⟩ := HX.out _ HB.out
              have HB1' := Lib.hid bb1
              clear bb1 bb2 bb3 bb4
              go_upto_block 4 with fail
              go_cut [10] (fun s10 W => s10 = .bool true ∧ ∃ q2, Aside0 (RAt W g h b1 b2 rv sv bs q2) ∧ Aside0 (Below w1.heap.size w1 W))
              case first =>
                by_cases h0 : f0 = 0
                · subst h0
                  as_aux_lemma =>
                    have hRN := RNumber_any wr g b1 rv bs q f2 HA.out.reel
                    have hFN := fun W hR => RefRNumber_any W h b2 sv bs q f2 hR
                    generalize readN (rest bs q) f2 = r at hRN hFN
                    obtain ⟨rn, rc, rd⟩ := r
                    simp only at hRN hFN
                    have HRN := Lib.hid hRN
                    have HFN := Lib.hid hFN
                    clear hRN hFN
                    go_wp2_with (first | (go_at_call 29; (with_reducible refine HRN.out.mono ?_); rintro e w3 ⟨rfl, hR3, hF3⟩; have HR3 := Lib.hid hR3; have HF3 := Lib.hid hF3; have HRf := Lib.hid (HA.out.refAfter hF3); have HB3 := Lib.hid (below_fr rfl HB.out hF3 HGH.out.1); clear hR3 hF3; obtain ⟨z0, z1, z2, z3, z4⟩ := HX.out _ HB3.out) | (go_at_call 31; (with_reducible refine (HFN.out _ HRf.out).mono ?_); rintro e w4 ⟨rfl, hS4, hF4⟩; have HA4 := Lib.hid (HA.out.read HR3.out HF3.out hS4 hF4); have HB4 := Lib.hid (below_fr rfl HB3.out hF4 HGH.out.2); clear hS4 hF4))
                    go_meet
                    exact ⟨rfl, _, Aside0.mk HA4.out, Aside0.mk HB4.out⟩
                · by_cases h1 : f0 = 1
                  · subst h1
                    clear h0
                    as_aux_lemma =>
                      have HAd := Lib.hid (HA.out.below (below_drew (Below.refl _ _)))
                      have HBd := Lib.hid (below_drew HB.out)
                      have s3 : wr.drew.cell? ⟨(ad.add (k * 6)).block, (ad.add (k * 6)).off + 3, none⟩ = some (.int .i64 f3) := y3
                      have s4 : wr.drew.cell? ⟨(ad.add (k * 6)).block, (ad.add (k * 6)).off + 4, none⟩ = some (.int .i64 f4) := y4
                      go_wp2
                      have hRN := RSigned_any wr.drew g b1 rv bs q f3 f4 HAd.out.reel
                      have hFN := fun W hR => RefRSigned_any W h b2 sv bs q f3 f4 hR
                      generalize readS (rest bs q) f3 f4 = r at hRN hFN
                      obtain ⟨rn, rc, rd⟩ := r
                      simp only at hRN hFN
                      have HRN := Lib.hid hRN
                      have HFN := Lib.hid hFN
                      clear hRN hFN

                      go_region_held3 (fun w' => w'.cell? ⟨(ad.add (k * 6)).block, (ad.add (k * 6)).off + 3, none⟩ = some (.int .i64 f3) ∧ w'.cell? ⟨(ad.add (k * 6)).block, (ad.add (k * 6)).off + 4, none⟩ = some (.int .i64 f4)) (go_keep) ((go_at_call 30; (with_reducible refine HRN.out.mono ?_); rintro e w3 ⟨rfl, hR3, hF3⟩; have HR3 := Lib.hid hR3; have HF3 := Lib.hid hF3; have HRf := Lib.hid (HAd.out.refAfter hF3); have HB3 := Lib.hid (below_fr rfl HBd.out hF3 HGH.out.1); clear hR3 hF3; obtain ⟨z0, z1, z2, z3, z4⟩ := HX.out _ HB3.out))
                      have HRd := Lib.hid (HR3.out.below (below_drew (Below.refl _ _)))
                      have HRfd := Lib.hid (HRf.out.below (below_drew (Below.refl _ _)))
                      have HFd := Lib.hid HF3.out.drew
                      have HBe := Lib.hid (below_drew HB3.out)
                      have v3 : w3.drew.cell? ⟨(ad.add (k * 6)).block, (ad.add (k * 6)).off + 3, none⟩ = some (.int .i64 f3) := z3
                      have v4 : w3.drew.cell? ⟨(ad.add (k * 6)).block, (ad.add (k * 6)).off + 4, none⟩ = some (.int .i64 f4) := z4
                      go_wp2
                      go_region_held3 (fun w' => w'.cell? ⟨(ad.add (k * 6)).block, (ad.add (k * 6)).off + 3, none⟩ = some (.int .i64 f3) ∧ w'.cell? ⟨(ad.add (k * 6)).block, (ad.add (k * 6)).off + 4, none⟩ = some (.int .i64 f4)) (go_keep) ((go_at_call 32; (with_reducible refine (HFN.out _ HRfd.out).mono ?_); rintro e w4 ⟨rfl, hS4, hF4⟩; have HA4 := Lib.hid (HAd.out.read HRd.out HFd.out hS4 hF4); have HB4 := Lib.hid (below_fr rfl HBe.out hF4 HGH.out.2); clear hS4 hF4; obtain ⟨q0, q1, q2, q3, q4⟩ := HX.out _ HB4.out))
                      go_wp2
                      go_meet
                      exact ⟨rfl, _, Aside0.mk HA4.out, Aside0.mk HB4.out⟩
                  · by_cases h2 : f0 = 2
                    · subst h2
                      clear h0 h1
                      as_aux_lemma =>
                        have hRN := RBytes_any wr g b1 rv bs q f1 HA.out.reel HB1'.out.1 HB1'.out.2
                        have hFN := fun W hR => RefRBytes_any W h b2 sv bs q f1 hR HSM.out HB1'.out.1 HB1'.out.2
                        have hzl := readB_len bs q f1
                        generalize readB bs q f1 = r at hRN hFN hzl
                        obtain ⟨zs0, rc, rd⟩ := r
                        simp only at hRN hFN hzl
                        have HRN := Lib.hid hRN
                        have HFN := Lib.hid hFN
                        clear hRN hFN
                        go_wp2_with (first | (go_at_call 33; (with_reducible refine HRN.out.mono ?_); rintro e w3 ⟨u3, rfl, ho3, hR3, hF3⟩; have HR3 := Lib.hid hR3; have HF3 := Lib.hid hF3; have HRf := Lib.hid (HA.out.refAfter hF3); have HB3 := Lib.hid (below_fr rfl HB.out hF3 HGH.out.1); have HO3 := Lib.hid (ROwn.made HA.out ho3); clear hR3 hF3 ho3; obtain ⟨z0, z1, z2, z3, z4⟩ := HX.out _ HB3.out) | (go_at_call 34; (with_reducible refine (HFN.out _ HRf.out).mono ?_); rintro e w4 ⟨u4, rfl, ho4, hS4, hF4⟩; have HA4 := Lib.hid (HA.out.read HR3.out HF3.out hS4 hF4); have HB4 := Lib.hid (below_fr rfl HB3.out hF4 HGH.out.2); have HO4 := Lib.hid (HO3.out.fr hF4 (fun _ e => Or.inr e)); obtain ⟨A6, c6, rfl⟩ := own_slice HO4.out.row; obtain ⟨A8, c8, rfl⟩ := own_slice ho4; have hcv1 := string_read (c := c6) (row_C HO4.out.row).2.2; have hcv2 := string_read (c := c8) (row_C ho4).2.2; clear hS4 hF4 ho4))
                        obtain ⟨lo9, hlo9⟩ : ∃ lo9, wr.heap.size = lo9 := ⟨_, rfl⟩
                        rw [hlo9] at HO4
                        have hlo := HB.out.size
                        rw [hlo9] at hlo
                        have HLO9 := Lib.hid hlo
                        clear hlo hlo9 hcv1 hcv2
                        go_loopw [170] (fun i W => ∃ (j : Nat) (zs : List Int), i = .int .i64 j ∧ j ≤ zs0.length ∧ zs.length = zs0.length ∧ Aside0 (RAt W g h b1 b2 rv sv bs (q + rd)) ∧ Aside0 (ROwn W g h lo9 rv sv (.slice A6 zs0.length c6) zs) ∧ Aside0 (Below w1.heap.size w1 W)) (fun i _ => zs0.length - (intOf i).toNat)
                        case atStart => exact ⟨0, _, rfl, Nat.zero_le _, rfl, Aside0.mk HA4.out, Aside0.mk HO4.out, Aside0.mk HB4.out⟩
                        case round =>
                          obtain ⟨j, zs, rfl, hj, hzs, HAj, HOj, HBj⟩ := hrel
                          by_cases hjl : j < zs0.length
                          · have hjl' : ((j : Int) < ((zs0.length : Nat) : Int)) := by omega
                            obtain ⟨g6, hA6, _, hg6, hg6s, hcl, hfr⟩ := HOj.out.at_ j (by omega)
                            obtain rfl := hA6
                            generalize zs.getD j 0 = z at *
                            have HZS := Lib.hid hzs
                            clear hzs
                            go_wp2
                            go_roundw
                            case rel =>
                              have ho : ROwn wr g h lo9 rv sv (.slice (some ⟨g6, 0, none⟩) zs.length c6) zs := by rw [HZS.out]; exact HOj.out
                              have h2 := ROwn.put ho HAj.out j ((z + 1) % 256)
                              rw [HZS.out] at h2
                              exact ⟨j + 1, zs.set j ((z + 1) % 256), by go_num, by omega, by rw [List.length_set]; exact HZS.out, Aside0.mk h2.2, Aside0.mk h2.1, Aside0.mk (HBj.out.setCell (show w1.heap.size ≤ g6 from Nat.le_trans HLO9.out hg6) _)⟩
                            case measure => exact (show zs0.length - ((j : Int) + 1).toNat < zs0.length - (j : Int).toNat by omega)
                          · obtain rfl : j = zs0.length := by omega
                            have hjl' : ¬ (((zs0.length : Nat) : Int) < ((zs0.length : Nat) : Int)) := by omega
                            go_wp2
                            go_meet
                            exact ⟨rfl, _, Aside0.mk HAj.out, Aside0.mk HBj.out⟩
                    · by_cases h3 : f0 = 3
                      · subst h3
                        clear h0 h1 h2
                        as_aux_lemma =>
                          have hRN := Raw_any wr g b1 rv bs q f1 HA.out.reel HB1'.out.1 HB1'.out.2
                          have hFN := fun W hR => RefRaw_any W h b2 sv bs q f1 hR HSM.out HB1'.out.1 HB1'.out.2
                          have hzl := readR_len bs q f1
                          generalize readR bs q f1 = r at hRN hFN hzl
                          obtain ⟨zs0, rc, rd⟩ := r
                          simp only at hRN hFN hzl
                          have HRN := Lib.hid hRN
                          have HFN := Lib.hid hFN
                          clear hRN hFN
                          go_wp2_with (first | (go_at_call 35; (with_reducible refine HRN.out.mono ?_); rintro e w3 ⟨u3, rfl, ho3, hR3, hF3⟩; have HR3 := Lib.hid hR3; have HF3 := Lib.hid hF3; have HRf := Lib.hid (HA.out.refAfter hF3); have HB3 := Lib.hid (below_fr rfl HB.out hF3 HGH.out.1); have HO3 := Lib.hid (ROwn.made HA.out ho3); clear hR3 hF3 ho3; obtain ⟨z0, z1, z2, z3, z4⟩ := HX.out _ HB3.out) | (go_at_call 36; (with_reducible refine (HFN.out _ HRf.out).mono ?_); rintro e w4 ⟨u4, rfl, ho4, hS4, hF4⟩; have HA4 := Lib.hid (HA.out.read HR3.out HF3.out hS4 hF4); have HB4 := Lib.hid (below_fr rfl HB3.out hF4 HGH.out.2); have HO4 := Lib.hid (HO3.out.fr hF4 (fun _ e => Or.inr e)); obtain ⟨A6, c6, rfl⟩ := own_slice HO4.out.row; obtain ⟨A8, c8, rfl⟩ := own_slice ho4; have hcv1 := string_read (c := c6) (row_C HO4.out.row).2.2; have hcv2 := string_read (c := c8) (row_C ho4).2.2; clear hS4 hF4 ho4))
                          obtain ⟨lo9, hlo9⟩ : ∃ lo9, wr.heap.size = lo9 := ⟨_, rfl⟩
                          rw [hlo9] at HO4
                          have hlo := HB.out.size
                          rw [hlo9] at hlo
                          have HLO9 := Lib.hid hlo
                          clear hlo hlo9 hcv1 hcv2
                          go_loopw [214] (fun i W => ∃ (j : Nat) (zs : List Int), i = .int .i64 j ∧ j ≤ zs0.length ∧ zs.length = zs0.length ∧ Aside0 (RAt W g h b1 b2 rv sv bs (q + rd)) ∧ Aside0 (ROwn W g h lo9 rv sv (.slice A6 zs0.length c6) zs) ∧ Aside0 (Below w1.heap.size w1 W)) (fun i _ => zs0.length - (intOf i).toNat)
                          case atStart => exact ⟨0, _, rfl, Nat.zero_le _, rfl, Aside0.mk HA4.out, Aside0.mk HO4.out, Aside0.mk HB4.out⟩
                          case round =>
                            obtain ⟨j, zs, rfl, hj, hzs, HAj, HOj, HBj⟩ := hrel
                            by_cases hjl : j < zs0.length
                            · have hjl' : ((j : Int) < ((zs0.length : Nat) : Int)) := by omega
                              obtain ⟨g6, hA6, _, hg6, hg6s, hcl, hfr⟩ := HOj.out.at_ j (by omega)
                              obtain rfl := hA6
                              generalize zs.getD j 0 = z at *
                              have HZS := Lib.hid hzs
                              clear hzs
                              go_wp2
                              go_roundw
                              case rel =>
                                have ho : ROwn wr g h lo9 rv sv (.slice (some ⟨g6, 0, none⟩) zs.length c6) zs := by rw [HZS.out]; exact HOj.out
                                have h2 := ROwn.put ho HAj.out j ((z + 1) % 256)
                                rw [HZS.out] at h2
                                exact ⟨j + 1, zs.set j ((z + 1) % 256), by go_num, by omega, by rw [List.length_set]; exact HZS.out, Aside0.mk h2.2, Aside0.mk h2.1, Aside0.mk (HBj.out.setCell (show w1.heap.size ≤ g6 from Nat.le_trans HLO9.out hg6) _)⟩
                              case measure => exact (show zs0.length - ((j : Int) + 1).toNat < zs0.length - (j : Int).toNat by omega)
                            · obtain rfl : j = zs0.length := by omega
                              have hjl' : ¬ (((zs0.length : Nat) : Int) < ((zs0.length : Nat) : Int)) := by omega
                              go_wp2
                              go_meet
                              exact ⟨rfl, _, Aside0.mk HAj.out, Aside0.mk HBj.out⟩
                      · go_wp2
                        go_meet
                        exact ⟨rfl, _, Aside0.mk HA.out, Aside0.mk HB.out⟩
              case rest =>
                as_aux_lemma =>
                  obtain ⟨rfl, q2, HAc, HBc⟩ := hcut
                  have HAw := Lib.hid HAc.out
                  have HBw := Lib.hid HBc.out
                  have r1 := HAc.out.ref.cells.2
                  clear HAc HBc y0 y1 y2 y3 y4
                  go_wp2
                  go_quiet (first | (go_at_call 28; refine quiet_eq' (At_any _ g b1 rv bs q2 (HAw.out.reel.below (pw_below_drewN (Below.refl _ _) _)))) | (go_at_call 37; refine Calls.quiet_of (End_drawn _ g b1 rv bs q2 (HAw.out.reel.below (pw_below_drewN (Below.refl _ _) _)))) | (go_at_call 38; refine Calls.quiet_of (RefEnd_drawn _ h b2 sv bs q2 (HAw.out.ref.below (pw_below_drewN (Below.refl _ _) _)))))
                  go_wp2
                  refine ⟨⟨k + 1, q2, by go_num, by omega, Aside0.mk (HAw.out.below (pw_below_drewN (Below.refl _ _) _)), Aside0.mk (pw_below_drewN HBw.out _)⟩, ?_⟩
                  show ops.length - ((k : Int) + 1).toNat < ops.length - (k : Int).toNat
                  omega
            · obtain rfl : k = ops.length := by omega
              have hkl' : ¬ ((ops.length : Int) < (ops.length : Int)) := by omega
              have r1 := HA.out.ref.cells.2
              have HAw := Lib.hid HA.out
              have HBw := Lib.hid HB.out
              clear HA HB
              go_wp2
              go_quiet ((go_at_call 28; refine quiet_eq' (At_any _ g b1 rv bs q (HAw.out.reel.below (pw_below_drewN (Below.refl _ _) _)))))
              go_wp2
              go_ret
              exact ⟨rfl, below_then hB1.out (by have := HSZ.out; omega) (pw_below_drewN HBw.out _)⟩
end Go.Proofs.Ytpiainanlmpieaa
