/- slices.Equal; Same. -/
import Derived.Test.YtacmajlbaenjfaaSs
namespace Go.Proofs.Ytacmajlbaenjfaa
open Go.RowKit Go.Shelf Go.Proofs.YtacmajlbaenjfaaW.PrintWords Go.Proofs.YtacmajlbaenjfaaW.PrintLast Go.Proofs.YtacmajlbaenjfaaW.PrintMore

theorem take_eq_all {xs ys : List Int} {n : Nat} (hx : xs.length = n) (hy : ys.length = n) (h : xs.take n = ys.take n) : xs = ys := by
  rwa [List.take_of_length_le (by omega), List.take_of_length_le (by omega)] at h
theorem take_eq_next {xs ys : List Int} {k : Nat} (hx : k < xs.length) (hy : k < ys.length) (h : xs.take k = ys.take k) (he : rd xs (k : Int) = rd ys (k : Int)) : xs.take (k + 1) = ys.take (k + 1) := by
  rw [List.take_add_one, List.take_add_one, rd_mem hx, rd_mem hy, h, he]
set_option maxRecDepth 100000 in
set_option maxHeartbeats 1000000 in
theorem equal55 (w : World) (A B : Option Addr) (c d : Nat) (xs ys : List Int) (hC : (Kd.int .i64).C w A xs.length xs) (hD : (Kd.int .i64).C w B ys.length ys) :
    Calls Try.prog 55 #[.slice A xs.length c, .slice B ys.length d] w fun e w' => e = .returned (.bool (decide (xs = ys))) ∧ ∃ m, w' = w.drewN m := by
  have hn1 := hC.2.1
  by_cases h : xs.length = ys.length
  case neg =>
    have e : decide (xs = ys) = false := decide_eq_false (fun e => h (by rw [e]))
    rw [e]
    generalize xs.length = n at *
    generalize ys.length = m at *
    have h' : ¬ (n : Int) = (m : Int) := by omega
    clear hC hD e
    go_enter Try.func55, Try.ntmps55
    go_wp2
    go_ret
    exact ⟨rfl, 0, rfl⟩
  case pos =>
    obtain ⟨n, hn⟩ : ∃ n, xs.length = n := ⟨_, rfl⟩
    have hm : ys.length = n := by omega
    rw [hn] at hC hn1 ⊢
    rw [hm] at hD ⊢
    have HN : Hid (xs.length = n ∧ ys.length = n) := Lib.hid ⟨hn, hm⟩
    have HC := Lib.hid (fun W (hb : Below w.heap.size w W) => Kd.C_below hC hb)
    have HD := Lib.hid (fun W (hb : Below w.heap.size w W) => Kd.C_below hD hb)
    clear h hn hm hC hD
    go_enter Try.func55, Try.ntmps55
    go_wp2
    go_loopw [13] (fun i wr => ∃ k : Nat, i = .int .i64 k ∧ k ≤ n ∧ Aside0 (xs.take k = ys.take k) ∧ Aside0 (∃ m, wr = w.drewN m)) (fun i _ => n - (intOf i).toNat)
    case atStart => exact ⟨0, rfl, Nat.zero_le _, Aside0.mk (by simp), Aside0.mk ⟨0, rfl⟩⟩
    case round =>
      obtain ⟨k, rfl, hk, HT, HW⟩ := hrel
      obtain ⟨mw, hmw⟩ := HW.out
      have HMW := Lib.hid hmw
      have hb := hmw ▸ pw_below_drewN (Below.refl w.heap.size w) mw
      by_cases hlt : k < n
      · have hlt2 : (k : Int) < (n : Int) := by omega
        obtain ⟨a1, rfl, e1⟩ := Kd.at_int (HC.out _ hb) (k : Int) (by omega) (by omega)
        obtain ⟨a2, rfl, e2⟩ := Kd.at_int (HD.out _ hb) (k : Int) (by omega) (by omega)
        rw [Int.toNat_natCast] at e1 e2
        by_cases he : rd xs (k : Int) = rd ys (k : Int)
        · have hnx : Hid (xs.take (k + 1) = ys.take (k + 1)) := Lib.hid (take_eq_next (by have := HN.out.1; omega) (by have := HN.out.2; omega) HT.out he)
          rw [← he] at e2
          generalize rd xs (k : Int) = x at *
          clear he hb hmw
          go_wp2
          go_quiet (fail)
          go_wp2
          go_roundw
          case rel => exact ⟨k + 1, by go_num, by omega, Aside0.mk hnx.out, Aside0.mk ⟨mw + nq, by rw [HMW.out, World.drewN_drewN]⟩⟩
          case measure => simp [intOf]; omega
        · have hne : Hid (¬ xs = ys) := Lib.hid (fun e => he (by rw [e]))
          generalize rd xs (k : Int) = x at *
          generalize rd ys (k : Int) = y at *
          clear hb hmw
          go_wp2
          go_quiet (fail)
          go_wp2
          go_ret
          exact ⟨congrArg (fun b => Ending.returned (.bool b)) (decide_eq_false hne.out).symm, mw + nq, by rw [HMW.out, World.drewN_drewN]⟩
      · obtain rfl : n = k := by omega
        have hlt2 : ¬ (n : Int) < (n : Int) := by omega
        clear hb hmw
        go_wp2
        go_ret
        exact ⟨congrArg (fun b => Ending.returned (.bool b)) (decide_eq_true (take_eq_all HN.out.1 HN.out.2 HT.out)).symm, mw, HMW.out⟩

set_option maxRecDepth 100000 in
set_option maxHeartbeats 1000000 in
theorem Same28_any (w : World) (A B A2 B2 : Option Addr) (c d c2 d2 : Nat) (xs ys xs2 ys2 : List Int) (hC : (Kd.int .i64).C w A xs.length xs) (hD : (Kd.int .i64).C w B ys.length ys) (hC2 : (Kd.int .i64).C w A2 xs2.length xs2) (hD2 : (Kd.int .i64).C w B2 ys2.length ys2) :
    Calls Try.prog 28 #[.agg #[.slice A xs.length c, .slice B ys.length d], .agg #[.slice A2 xs2.length c2, .slice B2 ys2.length d2]] w fun e w' => e = .returned (.bool (decide (xs = xs2) && decide (ys = ys2))) ∧ Below w.heap.size w w' := by
  have hB0 := ((Below.refl w.heap.size w).alloc (Nat.le_refl _) (.cells #[.slice A xs.length c, .slice B ys.length d] 26)).alloc (by simp) (.cells #[.slice A2 xs2.length c2, .slice B2 ys2.length d2] 26)
  have HB0 := Lib.hid hB0
  have HE := Lib.hid (fun W (hb : Below w.heap.size w W) => equal55 W A A2 c c2 xs xs2 (Kd.C_below hC hb) (Kd.C_below hC2 hb))
  have HF := Lib.hid (fun W (hb : Below w.heap.size w W) => equal55 W B B2 d d2 ys ys2 (Kd.C_below hD hb) (Kd.C_below hD2 hb))
  clear hB0 hC hD hC2 hD2
  generalize decide (xs = xs2) = r1 at *
  generalize decide (ys = ys2) = r2 at *
  cases r1
  · go_enter Try.func28, Try.ntmps28
    go_wp2_with (go_at_call 55; (with_reducible refine (HE.out _ HB0.out).mono ?_); rintro e w1 ⟨rfl, m, rfl⟩)
    go_ret
    exact ⟨rfl, pw_below_drewN HB0.out _⟩
  · go_enter Try.func28, Try.ntmps28
    go_wp2_with (first | (go_at_call 55; (with_reducible refine (HE.out _ HB0.out).mono ?_); rintro e w1 ⟨rfl, m, rfl⟩) | (go_at_call 55; (with_reducible refine (HF.out _ (pw_below_drewN HB0.out _)).mono ?_); rintro e w1 ⟨rfl, m2, rfl⟩))
    go_ret
    refine ⟨by simp, ?_⟩
    first | exact pw_below_drewN HB0.out _ | exact pw_below_drewN (pw_below_drewN HB0.out _) _
end Go.Proofs.Ytacmajlbaenjfaa
