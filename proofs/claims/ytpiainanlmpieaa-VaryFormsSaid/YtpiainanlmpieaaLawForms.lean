/- VaryForms' walk: what is read of any bytes has just these; with an error the place stays, and what stands there is no number's bytes, or one that is too great. -/
import Derived.Test.YtpiainanlmpieaaVg
import Derived.Deep.DeepCutAuto
import Derived.Deep.CutBlock
namespace Go.Proofs.Ytpiainanlmpieaa
open Go.RowKit Go.Shelf Go.Proofs.YtpiainanlmpieaaW.PrintWords Go.Proofs.YtpiainanlmpieaaW.PrintLast Go.Proofs.YtpiainanlmpieaaW.PrintMore

theorem RefWidth_0 (w : World) : Calls Try.prog 16 #[.int .u64 0] w fun e w' => e = .returned (.int .i64 1) ∧ w = w' := RefWidth_any 0 (by omega) w

set_option maxRecDepth 100000 in
set_option maxHeartbeats 4000000 in
theorem forms_walk (A : Option Addr) (c : Nat) (bs : List Int) (m : Int) (w : World) (hC : (Kd.int .u8).C w A bs.length bs) (hlc : bs.length ≤ c) (hb : ∀ b ∈ bs, 0 ≤ b ∧ b ≤ 255) :
    Calls Try.prog 5 #[.slice A bs.length c, .int .u64 m] w fun e w' => e = .returned (.bool true) ∧ Below w.heap.size w w' := by
  by_cases hl : 200 < bs.length
  · have hl' : (200 : Int) < (bs.length : Int) := by omega
    go_enter Try.func5, Try.ntmps5
    go_wp2_with (go_at_call 10; refine (alive_any _).mono ?_; rintro e v1 ⟨rfl, hb1⟩)
    go_ret
    exact ⟨rfl, hb1⟩
  · have hl' : ¬ (200 : Int) < (bs.length : Int) := by omega
    have HC := Lib.hid hC
    have HB := Lib.hid hb
    clear hC hb
    go_enter Try.func5, Try.ntmps5
    go_wp2_with (go_at_call 10; refine (alive_any _).mono ?_; rintro e v1 ⟨rfl, hb1⟩)
    have hC1 := Lib.hid (Kd.C_below HC.out hb1)
    refine (On_any A c bs _ hC1.out (by omega) HB.out).mono ?_
    rintro e v2 ⟨g, rv, rfl, hg, hR, hb2⟩
    go_wp2
    have hRR := Lib.hid hR
    have HB1 := Lib.hid hb1
    have HB2 := Lib.hid hb2
    clear hb1 hb2 hR
    go_loopw [26] (fun i wr => ∃ k p : Nat, i = .int .i64 k ∧ k ≤ p ∧ Aside0 (ReelIs wr g v1.heap.size rv bs p) ∧ Aside0 (Below v1.heap.size v1 wr)) (fun i _ => bs.length + 1 - (intOf i).toNat)
    case atStart => exact ⟨0, 0, rfl, Nat.le_refl _, Aside0.mk hRR.out, Aside0.mk HB2.out⟩
    case round =>
      obtain ⟨k, p, rfl, hkp, HR, HBw⟩ := hrel
      have hp := HR.out.le
      have hk : ((k : Int) < (bs.length : Int) + 1) := by omega
      by_cases he : (look (rest bs p)).2.2 = 0
      · obtain ⟨hw1, hw2⟩ := look_wide bs p hp HB.out he
        obtain ⟨hy1, hy2⟩ := look_bytes bs p HB.out he
        by_cases hmn : m < (look (rest bs p)).1
        · have hN := RNumber_any wr g _ rv bs p m HR.out
          have e : readN (rest bs p) m = (0, 12, 0) := by unfold readN; rw [if_pos he, if_pos hmn]
          rw [e] at hN
          have hN2 := fun W (h : ReelIs W g v1.heap.size rv bs p) => RNumber_any W g _ rv bs p 18446744073709551615 h
          have e : readN (rest bs p) 18446744073709551615 = ((look (rest bs p)).1, 0, (look (rest bs p)).2.1) := by unfold readN; rw [if_pos he, if_neg (by omega)]
          rw [e] at hN2
          have HN := Lib.hid hN
          have HN2 := Lib.hid hN2
          clear hN hN2 he e hy1
          generalize (look (rest bs p)).1 = n at *
          generalize (look (rest bs p)).2.1 = d at *
          have hgr : v1.heap.size ≤ wr.heap.size := HBw.out.size
          go_wp2_with (first | (go_at_call 28; (with_reducible refine (At_any _ _ _ _ _ _ HR.out).mono ?_); rintro e w' ⟨rfl, rfl⟩) | (go_at_call 29; (with_reducible refine HN.out.mono ?_); rintro e w3 ⟨rfl, hR3, hF3⟩; have HR3 := Lib.hid hR3; have HB3 := Lib.hid (HBw.out.trans (hF3.below hgr (fun i hi h => by omega))); clear hR3 hF3) | (go_at_call 29; (with_reducible refine (HN2.out _ HR3.out).mono ?_); rintro e w4 ⟨rfl, hR4, hF4⟩; have HR4 := Lib.hid hR4; have HB4 := Lib.hid (HB3.out.trans (hF4.below HB3.out.size (fun i hi h => by omega))); clear hR4 hF4))
          go_ret
          exact ⟨rfl, below_step HB1.out HB4.out⟩
        · have hN := RNumber_any wr g _ rv bs p m HR.out
          have e : readN (rest bs p) m = ((look (rest bs p)).1, 0, (look (rest bs p)).2.1) := by unfold readN; rw [if_pos he, if_neg hmn]
          rw [e] at hN
          have HN := Lib.hid hN
          have HY := Lib.hid hy1
          clear hN hy1 he e
          generalize (look (rest bs p)).1 = n at *
          generalize (look (rest bs p)).2.1 = d at *
          obtain ⟨q, hq⟩ : ∃ q, q = p + d := ⟨_, rfl⟩
          obtain ⟨A', hcut, hcc⟩ := cut_read A c p q bs (by omega) (by omega) hlc
          have HCC := Lib.hid hcc
          have HNn : ¬ m < (n : Int) := hmn
          simp only [← hq] at HN HY
          have HQ := Lib.hid hq
          clear hq hcc hmn
          have hrev : strOfNums (encI n) = numStr (n : Int) := rfl
          have HREV := Lib.hid hrev
          clear hrev
          have hgr : v1.heap.size ≤ wr.heap.size := HBw.out.size
          go_wp2_with (first | (go_at_call 28; (with_reducible refine (At_any _ _ _ _ _ _ HR.out).mono ?_); rintro e w' ⟨rfl, rfl⟩) | (go_at_call 29; (with_reducible refine HN.out.mono ?_); rintro e w3 ⟨rfl, hR3, hF3⟩; have HR3 := Lib.hid hR3; have HB3 := Lib.hid (HBw.out.trans (hF3.below hgr (fun i hi h => by omega))); clear hR3 hF3) | (go_at_call 11; (with_reducible refine (number_any _ (by omega) (by omega) _).mono ?_); rintro e w4 ⟨rfl, hb4⟩; have HR4 := Lib.hid (HR3.out.below hb4); have HB4 := Lib.hid (below_then HB3.out HB3.out.size hb4); clear hb4; have hcs := string_read (c := c - p) (HCC.out w4 (Kd.C_below hC1.out HB4.out)); rw [HY.out, HREV.out] at hcs) | (go_at_call 28; (with_reducible refine (At_any _ _ _ _ _ _ HR4.out).mono ?_); rintro e w' ⟨rfl, rfl⟩))
          exact ⟨⟨k + 1, q, by go_num, by have := HQ.out; omega, Aside0.mk HR4.out, Aside0.mk HB4.out⟩, by simp [intOf]; omega⟩
      · have hN := fun W (h : ReelIs W g v1.heap.size rv bs p) most => RNumber_any W g _ rv bs p most h
        have e : ∀ most, readN (rest bs p) most = (0, (look (rest bs p)).2.2, 0) := fun most => by unfold readN; rw [if_neg he]
        simp only [e] at hN
        have HN := Lib.hid hN
        have hcd := look_code (rest bs p)
        clear hN e
        generalize (look (rest bs p)).2.2 = d at *
        have hgr : v1.heap.size ≤ wr.heap.size := HBw.out.size
        have hd0 : ((d : Int) == 0) = false := by simp; omega
        rcases hcd with hd | hd | hd
        · exact absurd hd he
        all_goals
          subst hd
          clear hd0 he
          go_wp2_with (first | (go_at_call 28; (with_reducible refine (At_any _ _ _ _ _ _ HR.out).mono ?_); rintro e w' ⟨rfl, rfl⟩) | (go_at_call 29; (with_reducible refine (HN.out _ HR.out m).mono ?_); rintro e w3 ⟨rfl, hR3, hF3⟩; have HR3 := Lib.hid hR3; have HB3 := Lib.hid (HBw.out.trans (hF3.below hgr (fun i hi h => by omega))); clear hR3 hF3) | (go_at_call 29; (with_reducible refine (HN.out _ HR3.out _).mono ?_); rintro e w4 ⟨rfl, hR4, hF4⟩; have HR4 := Lib.hid hR4; have HB4 := Lib.hid (HB3.out.trans (hF4.below HB3.out.size (fun i hi h => by omega))); clear hR4 hF4) | (go_at_call 28; (with_reducible refine (At_any _ _ _ _ _ _ HR4.out).mono ?_); rintro e w' ⟨rfl, rfl⟩) | (go_at_call 16; (with_reducible refine (RefWidth_0 _).mono ?_); rintro e w' ⟨rfl, rfl⟩))
          go_ret
          exact ⟨rfl, below_step HB1.out HB4.out⟩
end Go.Proofs.Ytpiainanlmpieaa
