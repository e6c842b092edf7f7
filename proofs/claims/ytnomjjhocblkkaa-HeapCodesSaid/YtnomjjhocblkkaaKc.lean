/- HeapCodes' walk. -/
import Derived.Test.YtnomjjhocblkkaaKb
import Derived.Test.YtnomjjhocblkkaaJg
namespace Go.Proofs.Ytnomjjhocblkkaa
open Go.RowKit Go.Shelf Go.Proofs.YtnomjjhocblkkaaW.PrintWords Go.Proofs.YtnomjjhocblkkaaW.PrintLast Go.Proofs.YtnomjjhocblkkaaW.PrintMore
open Go.Proofs.Ytnomjjhocblkkaa.PHeapSound

set_option maxRecDepth 100000 in
set_option maxHeartbeats 4000000 in
theorem codes_walk (A : Option Addr) (c : Nat) (sh : List (List Int)) (q : Int) (A1 : Option Addr) (c1 : Nat) (ops : List S34) (i t : Int) (w : World) (hC : Kd.C (Kd.slice 3 (Kd.int .i64)) w A sh.length sh) (hc : sh.length ≤ c) (hcm : c ≤ 9223372036854775807)
    (hC1 : Kd.C k34 w A1 ops.length ops) (hc1 : ops.length ≤ c1) :
    Calls Try.prog 4 #[.slice A sh.length c, .int .i64 q, .slice A1 ops.length c1, .int .i64 i, .int .i64 t] w fun e w' => e = .returned (.bool true) ∧ Below w.heap.size w w' := by
  have HC := Lib.hid (fun W (h : Below w.heap.size w W) => Kd.C_below hC h)
  have HC1 := Lib.hid (fun W (h : Below w.heap.size w W) => Kd.C_below hC1 h)
  have HGr := Lib.hid (fun W (h : Below w.heap.size w W) => great_any A c sh A1 c1 ops W (Kd.C_below hC h) hc hcm (Kd.C_below hC1 h) hc1)
  clear hC hC1
  by_cases hn : newOk sh q = true
  · have HNew := Lib.hid (fun W (h : Below w.heap.size w W) => New_any W A c sh q (HC.out W h) hn)
    have HNG := Lib.hid (new_good hn)
    clear hn
    by_cases hg : tooGreat sh ops = true
    · rw [hg] at HGr
      clear hg
      go_enter Try.func4, Try.ntmps4
      go_wp2_with (first | (go_at_call 8; refine (alive_any _).mono ?_; rintro e w1 ⟨rfl, hb⟩; have HB1 := Lib.hid hb; clear hb) | (go_at_call 9; refine (HNew.out _ HB1.out).mono ?_; rintro e w2 ⟨g, m, R, rfl, ho, hR, hb⟩; have HB2 := Lib.hid (below_then HB1.out HB1.out.size hb); clear ho hR hb) | (go_at_call 10; refine (HGr.out _ HB2.out).mono ?_; rintro e w3 ⟨rfl, hd⟩; have HB3 := Lib.hid (below_then HB2.out HB2.out.size (drawn_below hd)); clear hd))
      go_ret
      exact ⟨rfl, HB3.out⟩
    · have hg : tooGreat sh ops = false := by simpa using hg
      have HL := Lib.hid (tooGreat_no hg)
      rw [hg] at HGr
      clear hg
      go_enter Try.func4, Try.ntmps4
      go_wp2_with (first | (go_at_call 8; refine (alive_any _).mono ?_; rintro e w1 ⟨rfl, hb⟩; have HB1 := Lib.hid hb; clear hb) | (go_at_call 9; refine (HNew.out _ HB1.out).mono ?_; rintro e w2 ⟨g, m, R, rfl, ho, hR, hb⟩; have HB2 := Lib.hid (below_then HB1.out HB1.out.size hb); have HO2 := Lib.hid (ho.lower HB1.out.size); clear ho hR hb) | (go_at_call 10; refine (HGr.out _ HB2.out).mono ?_; rintro e w3 ⟨rfl, hd⟩; have HB3 := Lib.hid (below_then HB2.out HB2.out.size (drawn_below hd)); have HO3 := Lib.hid (HO2.out.below (drawn_below hd)); clear hd))
      clear HO2 HB2 HB1
      go_loopw [49] (fun j wr => ∃ (k : Nat) (H : HM) (R : Nat → Prop), j = .int .i64 k ∧ k ≤ ops.length ∧ Aside0 (HOwn w.heap.size wr g m H R) ∧ Aside0 (HGood sh q k H) ∧ Aside0 (Below w.heap.size w wr)) (fun j _ => ops.length - (intOf j).toNat)
      case atStart => exact ⟨0, _, _, rfl, Nat.zero_le _, Aside0.mk HO3.out, Aside0.mk HNG.out, Aside0.mk HB3.out⟩
      case round =>
        clear HO3 HB3
        obtain ⟨k, H, R', rfl, hk, HO, HGd, HB⟩ := hrel
        have hl150 := HL.out
        by_cases hkl : k < ops.length
        · have hkl' : ((k : Int) < (ops.length : Int)) := by omega
          obtain ⟨ad, rfl, x0, x1, x2, x3, x4, x5, x6⟩ := at_T34 (HC1.out _ HB.out) (k : Int) (by omega) (by omega)
          rw [Int.toNat_natCast] at *
          have HK150 := Lib.hid (Nat.lt_of_lt_of_le hkl HL.out)
          generalize rd_T34 ops (k : Int) = o at *
          obtain ⟨f0, f1, f2, ⟨f3, f4⟩, ⟨f5, f6⟩⟩ := o
          simp only at x0 x1 x2 x3 x4 x5 x6
          have hbA := below_alloc (Below.refl wr.heap.size wr) (.cells #[.int .i64 f0, .int .i64 f1, .int .i64 f2, .int .i64 f3, .int .i64 f4, .int .i64 f5, .int .i64 f6] 34)
          have HBA := Lib.hid (below_then HB.out HB.out.size hbA)
          have HOA := Lib.hid (HO.out.below hbA)
          clear hbA
          by_cases h0 : f0 = 0
          · subst h0
            go_wp2_with (go_at_call 11; refine (Make_any HOA.out HGd.out.fit f1).mono ?_; rintro e w4 ⟨rfl, ⟨R4, ho, _⟩, hf⟩; have HB4 := Lib.hid (below_g HBA.out HBA.out.size HOA.out hf); have HO4 := Lib.hid ho; clear ho hf)
            go_roundw
            case rel => exact ⟨k + 1, _, _, by go_num, by omega, Aside0.mk HO4.out, Aside0.mk (HGd.out.make f1 HK150.out), Aside0.mk HB4.out⟩
            case measure => simp [intOf]; omega
          · go_wp2
            go_roundw
            case rel => exact ⟨k + 1, _, _, by go_num, by omega, Aside0.mk HOA.out, Aside0.mk (HGd.out.mono (Nat.le_succ k)), Aside0.mk HBA.out⟩
            case measure => simp [intOf]; omega
        · have HFn := Lib.hid (HGd.out.mono (l := 150) (by have := HL.out; omega))
          clear HC1 HGr HNew HNG
          by_cases ht : cellT t = true
          · have hk1 : (decide (1 ≤ t) && decide (t < 5)) = true := by unfold cellT at ht; simp at ht ⊢; omega
            have hk4 : (t == 4) = false := by unfold cellT at ht; simp at ht ⊢; omega
            have HKn := Lib.hid (fun w => known_any t true hk1.symm w)
            have HT := Lib.hid ht
            clear ht hk1 HGd
            go_wp2_with (go_at_call 17; refine (HKn.out wr).mono ?_; rintro e w4 ⟨rfl, mk, hmk⟩; have hb : Below wr.heap.size wr w4 := hmk ▸ pw_below_drewN (Below.refl wr.heap.size wr) mk; clear hmk; have HB4 := Lib.hid (below_then HB.out HB.out.size hb); have HO4 := Lib.hid (HO.out.below hb); clear hb)
            have hobj := HFn.out.few
            go_loopw [19] (fun j W => ∃ (n : Nat) (H2 : HM), j = .int .i64 n ∧ n ≤ H.objs.length + 1 ∧ Aside0 (HOwn w.heap.size W g m H2 R') ∧ Aside0 (HGood sh q 150 H2) ∧ Aside0 (H2.objs = H.objs) ∧ Aside0 (Below w.heap.size w W)) (fun j _ => H.objs.length + 1 - (intOf j).toNat)
            case atStart => exact ⟨0, H, rfl, Nat.zero_le _, Aside0.mk HO4.out, Aside0.mk HFn.out, Aside0.mk rfl, Aside0.mk HB4.out⟩
            case round =>
              clear HO4 HB4 HO HB
              obtain ⟨n, H2, rfl, hn, HO, HGd, HEq, HB⟩ := hrel
              by_cases hnl : n ≤ H.objs.length
              · have hnl' : ((n : Int) ≤ (H.objs.length : Int)) := by omega
                have hln := Len_any HO.out
                rw [HEq.out] at hln
                have HLn := Lib.hid hln
                have h1 : (n : Int) ≤ (H2.objs.length : Int) := by rw [HEq.out]; omega
                have hgt := fun (W : World) (ho : HOwn w.heap.size W g m H2 R') => Get_code ho HGd.out.fit (n : Int) i t (by omega) h1 HT.out
                have hst := fun (W : World) (ho : HOwn w.heap.size W g m H2 R') => Set_code ho HGd.out.fit (n : Int) i t (by omega) h1 HT.out
                clear hln
                by_cases hn0 : n = 0
                · subst hn0
                  rw [show ((0 : Nat) : Int) = 0 from rfl, wrong_nil] at hgt hst
                  have HGt := Lib.hid hgt
                  have HSt := Lib.hid hst
                  clear hgt hst h1
                  go_wp2_with (first | (go_at_call 12; refine HLn.out.mono ?_; rintro e w' ⟨rfl, rfl⟩) | (go_at_call 16; refine (ref_any _ _).mono ?_; rintro e w5 ⟨rfl, hb⟩; have HB5 := Lib.hid (below_then HB.out HB.out.size hb); clear HB; have HB := HB5; clear HB5; have HO5 := Lib.hid (HO.out.below hb); clear HO; have HO := HO5; clear HO5; clear hb) | (go_at_call 15; refine (HGt.out _ HO.out).mono ?_; rintro e w6 ⟨va, vb, rfl, hb⟩; have hb2 := below_alloc hb (.cells #[.int .i64 va, .int .i64 vb] 32); have HB5 := Lib.hid (below_then HB.out HB.out.size hb2); clear HB; have HB := HB5; clear HB5; have HO5 := Lib.hid (HO.out.below hb2); clear HO; have HO := HO5; clear HO5; clear hb hb2) | (go_at_call 13; refine (HSt.out _ HO.out).mono ?_; rintro e w7 ⟨rfl, ho, hf⟩; have HB5 := Lib.hid (below_m HB.out HB.out.size HO.out hf); clear HB; have HB := HB5; clear HB5; clear HO; have HO := Lib.hid ho; clear ho hf))
                  go_roundw
                  case rel => exact ⟨1, _, by go_num, by omega, Aside0.mk HO.out, Aside0.mk (HGd.out.set 2 0 i t 0), Aside0.mk ((set_objs H2 2 0 i t 0).trans HEq.out), Aside0.mk HB.out⟩
                  case measure => simp [intOf]
                · have hn1 : (1 : Int) ≤ (n : Int) := by omega
                  have hnp : (0 : Int) < (n : Int) := by omega
                  have hsh := fun (W : World) (ho : HOwn w.heap.size W g m (setH H2 2 (n : Int) i t 0) R') => Shape_at ho (set_fit HGd.out.fit 2 (n : Int) i t 0) (n : Int) hn1 (by rw [set_objs]; exact h1)
                  simp only [set_objs] at hsh
                  obtain ⟨o0, o1⟩ := HGd.out.fit.obj hn1 h1
                  have hrow : rowOf H2 (n : Int) = rd_L1 sh (rd H2.objs ((n : Int) - 1)) := by unfold rowOf; rw [HGd.out.sh]
                  rw [HGd.out.sh] at o1
                  obtain ⟨o, ho⟩ : ∃ o : Nat, rd H2.objs ((n : Int) - 1) = o := ⟨(rd H2.objs ((n : Int) - 1)).toNat, by omega⟩
                  rw [ho] at o0 o1 hrow hsh
                  have HSh := Lib.hid hsh
                  obtain ⟨ae, Ae, ce, rfl, e1, hce, hCe⟩ := at_L1 (HC.out w (Below.refl _ _)) (o : Int) o0 o1
                  rw [Int.toNat_natCast] at e1
                  have hrl := HGd.out.fit.row _ (HGd.out.sh.symm ▸ rdL1_in o0 o1)
                  clear hsh ho hn0
                  by_cases hi : i < 0
                  · have hi' : ¬ 0 ≤ i := by omega
                    rw [wrong_low H2 t hn1 hi] at hgt hst
                    have HGt := Lib.hid hgt
                    have HSt := Lib.hid hst
                    have HE1 := Lib.hid e1
                    clear hgt hst h1 hrow hCe hce hi e1
                    go_wp2_with (first | (go_at_call 12; refine HLn.out.mono ?_; rintro e w' ⟨rfl, rfl⟩) | (go_at_call 16; refine (ref_any _ _).mono ?_; rintro e w5 ⟨rfl, hb⟩; have HB5 := Lib.hid (below_then HB.out HB.out.size hb); clear HB; have HB := HB5; clear HB5; have HO5 := Lib.hid (HO.out.below hb); clear HO; have HO := HO5; clear HO5; clear hb) | (go_at_call 15; refine (HGt.out _ HO.out).mono ?_; rintro e w6 ⟨va, vb, rfl, hb⟩; have hb2 := below_alloc hb (.cells #[.int .i64 va, .int .i64 vb] 32); have HB5 := Lib.hid (below_then HB.out HB.out.size hb2); clear HB; have HB := HB5; clear HB5; have HO5 := Lib.hid (HO.out.below hb2); clear HO; have HO := HO5; clear HO5; clear hb hb2) | (go_at_call 13; refine (HSt.out _ HO.out).mono ?_; rintro e w7 ⟨rfl, ho, hf⟩; have HB5 := Lib.hid (below_m HB.out HB.out.size HO.out hf); clear HB; have HB := HB5; clear HB5; clear HO; have HO := Lib.hid ho; clear ho hf) | (go_at_call 18; refine (HSh.out _ HO.out).mono ?_; rintro e w8 ⟨rfl, hb⟩; have HB5 := Lib.hid (below_then HB.out HB.out.size hb); clear HB; have HB := HB5; clear HB5; have HO5 := Lib.hid (HO.out.below hb); clear HO; have HO := HO5; clear HO5; clear hb; have z1 := pw_cell_below HB.out HE1.out))
                    go_roundw
                    case rel => exact ⟨n + 1, _, by go_num, by omega, Aside0.mk HO.out, Aside0.mk (HGd.out.set 2 n i t 0), Aside0.mk ((set_objs H2 2 n i t 0).trans HEq.out), Aside0.mk HB.out⟩
                    case measure => simp [intOf]; omega
                  · obtain ⟨j, rfl⟩ := Int.eq_ofNat_of_zero_le (show 0 ≤ i by omega)
                    by_cases hj : (j : Int) < (rd_L1 sh (o : Int)).length
                    · obtain ⟨af, rfl, e2⟩ := Kd.at_int hCe (j : Int) (by omega) hj
                      rw [Int.toNat_natCast] at e2
                      by_cases hty : rd (rd_L1 sh (o : Int)) (j : Int) = t
                      · rw [wrong_not H2 hn1 (by omega) (by rw [hrow]; exact hj) (by rw [hrow]; exact hty)] at hgt hst
                        have hty' : (rd (rd_L1 sh (o : Int)) (j : Int) == t) = true := by simpa using hty
                        have HGt := Lib.hid hgt
                        have HSt := Lib.hid hst
                        have HE1 := Lib.hid e1
                        have HE2 := Lib.hid e2
                        clear hgt hst h1 hrow hCe hce hi e1 e2 hty
                        generalize rd_L1 sh (o : Int) = row at *
                        generalize rd row (j : Int) = rj at *
                        go_wp2_with (first | (go_at_call 12; refine HLn.out.mono ?_; rintro e w' ⟨rfl, rfl⟩) | (go_at_call 16; refine (ref_any _ _).mono ?_; rintro e w5 ⟨rfl, hb⟩; have HB5 := Lib.hid (below_then HB.out HB.out.size hb); clear HB; have HB := HB5; clear HB5; have HO5 := Lib.hid (HO.out.below hb); clear HO; have HO := HO5; clear HO5; clear hb) | (go_at_call 15; refine (HGt.out _ HO.out).mono ?_; rintro e w6 ⟨va, vb, rfl, hb⟩; have hb2 := below_alloc hb (.cells #[.int .i64 va, .int .i64 vb] 32); have HB5 := Lib.hid (below_then HB.out HB.out.size hb2); clear HB; have HB := HB5; clear HB5; have HO5 := Lib.hid (HO.out.below hb2); clear HO; have HO := HO5; clear HO5; clear hb hb2) | (go_at_call 13; refine (HSt.out _ HO.out).mono ?_; rintro e w7 ⟨rfl, ho, hf⟩; have HB5 := Lib.hid (below_m HB.out HB.out.size HO.out hf); clear HB; have HB := HB5; clear HB5; clear HO; have HO := Lib.hid ho; clear ho hf) | (go_at_call 18; refine (HSh.out _ HO.out).mono ?_; rintro e w8 ⟨rfl, hb⟩; have HB5 := Lib.hid (below_then HB.out HB.out.size hb); clear HB; have HB := HB5; clear HB5; have HO5 := Lib.hid (HO.out.below hb); clear HO; have HO := HO5; clear HO5; clear hb; have z1 := pw_cell_below HB.out HE1.out; have z2 := pw_cell_below HB.out HE2.out))
                        go_roundw
                        case rel => exact ⟨n + 1, _, by go_num, by omega, Aside0.mk HO.out, Aside0.mk (HGd.out.set 2 n j t 0), Aside0.mk ((set_objs H2 2 n j t 0).trans HEq.out), Aside0.mk HB.out⟩
                        case measure => simp [intOf]; omega
                      · rw [wrong_type H2 hn1 (by omega) (by rw [hrow]; exact hj) (by rw [hrow]; exact hty)] at hgt hst
                        have hty' : (rd (rd_L1 sh (o : Int)) (j : Int) == t) = false := by simpa using hty
                        have HGt := Lib.hid hgt
                        have HSt := Lib.hid hst
                        have HE1 := Lib.hid e1
                        have HE2 := Lib.hid e2
                        clear hgt hst h1 hrow hCe hce hi e1 e2 hty
                        generalize rd_L1 sh (o : Int) = row at *
                        generalize rd row (j : Int) = rj at *
                        go_wp2_with (first | (go_at_call 12; refine HLn.out.mono ?_; rintro e w' ⟨rfl, rfl⟩) | (go_at_call 16; refine (ref_any _ _).mono ?_; rintro e w5 ⟨rfl, hb⟩; have HB5 := Lib.hid (below_then HB.out HB.out.size hb); clear HB; have HB := HB5; clear HB5; have HO5 := Lib.hid (HO.out.below hb); clear HO; have HO := HO5; clear HO5; clear hb) | (go_at_call 15; refine (HGt.out _ HO.out).mono ?_; rintro e w6 ⟨va, vb, rfl, hb⟩; have hb2 := below_alloc hb (.cells #[.int .i64 va, .int .i64 vb] 32); have HB5 := Lib.hid (below_then HB.out HB.out.size hb2); clear HB; have HB := HB5; clear HB5; have HO5 := Lib.hid (HO.out.below hb2); clear HO; have HO := HO5; clear HO5; clear hb hb2) | (go_at_call 13; refine (HSt.out _ HO.out).mono ?_; rintro e w7 ⟨rfl, ho, hf⟩; have HB5 := Lib.hid (below_m HB.out HB.out.size HO.out hf); clear HB; have HB := HB5; clear HB5; clear HO; have HO := Lib.hid ho; clear ho hf) | (go_at_call 18; refine (HSh.out _ HO.out).mono ?_; rintro e w8 ⟨rfl, hb⟩; have HB5 := Lib.hid (below_then HB.out HB.out.size hb); clear HB; have HB := HB5; clear HB5; have HO5 := Lib.hid (HO.out.below hb); clear HO; have HO := HO5; clear HO5; clear hb; have z1 := pw_cell_below HB.out HE1.out; have z2 := pw_cell_below HB.out HE2.out))
                        go_roundw
                        case rel => exact ⟨n + 1, _, by go_num, by omega, Aside0.mk HO.out, Aside0.mk (HGd.out.set 2 n j t 0), Aside0.mk ((set_objs H2 2 n j t 0).trans HEq.out), Aside0.mk HB.out⟩
                        case measure => simp [intOf]; omega
                    · rw [wrong_high H2 t hn1 (by rw [hrow]; omega)] at hgt hst
                      have HGt := Lib.hid hgt
                      have HSt := Lib.hid hst
                      have HE1 := Lib.hid e1
                      clear hgt hst h1 hrow hCe hce hi e1
                      generalize rd_L1 sh (o : Int) = row at *
                      go_wp2_with (first | (go_at_call 12; refine HLn.out.mono ?_; rintro e w' ⟨rfl, rfl⟩) | (go_at_call 16; refine (ref_any _ _).mono ?_; rintro e w5 ⟨rfl, hb⟩; have HB5 := Lib.hid (below_then HB.out HB.out.size hb); clear HB; have HB := HB5; clear HB5; have HO5 := Lib.hid (HO.out.below hb); clear HO; have HO := HO5; clear HO5; clear hb) | (go_at_call 15; refine (HGt.out _ HO.out).mono ?_; rintro e w6 ⟨va, vb, rfl, hb⟩; have hb2 := below_alloc hb (.cells #[.int .i64 va, .int .i64 vb] 32); have HB5 := Lib.hid (below_then HB.out HB.out.size hb2); clear HB; have HB := HB5; clear HB5; have HO5 := Lib.hid (HO.out.below hb2); clear HO; have HO := HO5; clear HO5; clear hb hb2) | (go_at_call 13; refine (HSt.out _ HO.out).mono ?_; rintro e w7 ⟨rfl, ho, hf⟩; have HB5 := Lib.hid (below_m HB.out HB.out.size HO.out hf); clear HB; have HB := HB5; clear HB5; clear HO; have HO := Lib.hid ho; clear ho hf) | (go_at_call 18; refine (HSh.out _ HO.out).mono ?_; rintro e w8 ⟨rfl, hb⟩; have HB5 := Lib.hid (below_then HB.out HB.out.size hb); clear HB; have HB := HB5; clear HB5; have HO5 := Lib.hid (HO.out.below hb); clear HO; have HO := HO5; clear HO5; clear hb; have z1 := pw_cell_below HB.out HE1.out))
                      go_roundw
                      case rel => exact ⟨n + 1, _, by go_num, by omega, Aside0.mk HO.out, Aside0.mk (HGd.out.set 2 n j t 0), Aside0.mk ((set_objs H2 2 n j t 0).trans HEq.out), Aside0.mk HB.out⟩
                      case measure => simp [intOf]; omega
              · have hnl' : ¬ ((n : Int) ≤ (H.objs.length : Int)) := by omega
                have hln := Len_any HO.out
                rw [HEq.out] at hln
                have HLn := Lib.hid hln
                clear hln
                go_wp2_with (go_at_call 12; refine HLn.out.mono ?_; rintro e w' ⟨rfl, rfl⟩)
                go_ret
                exact ⟨rfl, HB.out⟩
          · have ht : cellT t = false := by simpa using ht
            have HGt := Lib.hid (fun (W : World) (ho : HOwn w.heap.size W g m H R') => Get_type ho HFn.out.fit 0 i t ht)
            obtain ⟨b, hb⟩ : ∃ b, b = (decide (1 ≤ t) && decide (t < 5)) := ⟨_, rfl⟩
            have HKn := Lib.hid (fun w => known_any t b hb w)
            cases b
            · clear hb ht HGd
              go_wp2_with (first | (go_at_call 17; refine (HKn.out wr).mono ?_; rintro e w4 ⟨rfl, mk, hmk⟩; have hb : Below wr.heap.size wr w4 := hmk ▸ pw_below_drewN (Below.refl wr.heap.size wr) mk; clear hmk; have HB4 := Lib.hid (below_then HB.out HB.out.size hb); have HO4 := Lib.hid (HO.out.below hb); clear hb) | (go_at_call 16; refine (ref_any _ _).mono ?_; rintro e w5 ⟨rfl, hb⟩; have HB5 := Lib.hid (below_then HB4.out HB4.out.size hb); have HO5 := Lib.hid (HO4.out.below hb); clear hb) | (go_at_call 15; refine (HGt.out _ HO5.out).mono ?_; rintro e w6 ⟨rfl, hb⟩; have HB6 := Lib.hid (below_then HB5.out HB5.out.size hb); clear hb))
              go_ret
              exact ⟨rfl, HB6.out.alloc HB6.out.size _⟩
            · have hk4 : (t == 4) = true := by unfold cellT at ht; simp at ht hb ⊢; omega
              clear hb ht HGd
              go_wp2_with (first | (go_at_call 17; refine (HKn.out wr).mono ?_; rintro e w4 ⟨rfl, mk, hmk⟩; have hb : Below wr.heap.size wr w4 := hmk ▸ pw_below_drewN (Below.refl wr.heap.size wr) mk; clear hmk; have HB4 := Lib.hid (below_then HB.out HB.out.size hb); have HO4 := Lib.hid (HO.out.below hb); clear hb) | (go_at_call 16; refine (ref_any _ _).mono ?_; rintro e w5 ⟨rfl, hb⟩; have HB5 := Lib.hid (below_then HB4.out HB4.out.size hb); have HO5 := Lib.hid (HO4.out.below hb); clear hb) | (go_at_call 15; refine (HGt.out _ HO5.out).mono ?_; rintro e w6 ⟨rfl, hb⟩; have HB6 := Lib.hid (below_then HB5.out HB5.out.size hb); clear hb))
              go_ret
              exact ⟨rfl, HB6.out.alloc HB6.out.size _⟩
  · have hn : newOk sh q = false := by simpa using hn
    have HNew := Lib.hid (fun W (h : Below w.heap.size w W) => New_bad W A c sh q (HC.out W h) hn)
    clear hn
    obtain ⟨b, hb⟩ : ∃ b, tooGreat sh ops = b := ⟨_, rfl⟩
    rw [hb] at HGr
    clear hb
    go_enter Try.func4, Try.ntmps4
    cases b <;>
    (go_wp2_with (first | (go_at_call 8; refine (alive_any _).mono ?_; rintro e w1 ⟨rfl, hb⟩; have HB1 := Lib.hid hb; clear hb) | (go_at_call 9; refine (HNew.out _ HB1.out).mono ?_; rintro e w2 ⟨rfl, hb⟩; have HB2 := Lib.hid (below_then HB1.out HB1.out.size hb); clear hb) | (go_at_call 10; refine (HGr.out _ HB2.out).mono ?_; rintro e w3 ⟨rfl, hd⟩; have HB3 := Lib.hid (below_then HB2.out HB2.out.size (drawn_below hd)); clear hd))
     go_ret
     exact ⟨rfl, HB3.out⟩)
end Go.Proofs.Ytnomjjhocblkkaa
