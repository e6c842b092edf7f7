/- Contract of the document's Reel: Bytes. -/
import Derived.Test.YtpiainanlmpieaaVq
import Derived.Test.YtpiainanlmpieaaVl
namespace Go.Proofs.Ytpiainanlmpieaa
open Go.RowKit Go.Shelf Go.Proofs.YtpiainanlmpieaaW.PrintWords Go.Proofs.YtpiainanlmpieaaW.PrintLast Go.Proofs.YtpiainanlmpieaaW.PrintMore

set_option maxRecDepth 100000 in
set_option maxHeartbeats 2000000 in
theorem RefRBytes_any (w : World) (g base : Nat) (v : Value) (bs : List Int) (p : Nat) (most : Int) (hR : RefIs w g base v bs p) (hsm : bs.length < 140737488355328) (h0 : -9223372036854775808 ≤ most) (h1 : most ≤ 9223372036854775807) :
    Calls Try.prog 34 #[.pointer (some ⟨g, 0, none⟩), .int .i64 most] w fun e w' => ∃ u, e = .returned (.tuple #[u, .int .i64 (readB bs p most).2.1]) ∧
      w'.ownsRow w.heap.size 5 1 u (readB bs p most).1.length (nums .u8 (readB bs p most).1) ∧ RefIs w' g base v bs (p + (readB bs p most).2.2) ∧ Fr (fun i => i = g) w w' := by
  have hs := hR.small
  have hp := hR.le
  have z1 := hR.cells.2
  obtain ⟨M, hM⟩ : ∃ M : Nat, (most < 0 ∧ M = 0) ∨ (¬ most < 0 ∧ most = (M : Int)) := by
    by_cases h : most < 0
    · exact ⟨0, .inl ⟨h, rfl⟩⟩
    · exact ⟨most.toNat, by omega⟩
  have hMt : most.toNat = M := by omega
  have hN := RefRNumber_any w g base v bs p (M : Int) hR
  have hRB := Lib.hid hR
  by_cases hne : (readN (rest bs p) (M : Int)).2.1 = 0
  · obtain ⟨he, hr⟩ := readN_ok hne
    obtain ⟨hw1, hw2⟩ := look_wide bs p hR.le hR.bytes he
    have hle : ¬ M < (look (rest bs p)).1 := by
      intro h
      unfold readN at hne
      rw [if_pos he, if_pos (by omega)] at hne
      simp at hne
    rw [hr] at hN
    by_cases hsh : bs.length - p - (look (rest bs p)).2.1 < (look (rest bs p)).1
    · have e : readB bs p most = ([], 10, 0) := by unfold readB; rw [if_pos he, hMt, if_neg hle, if_pos hsh]
      rw [e]
      generalize (look (rest bs p)).1 = n at *
      generalize (look (rest bs p)).2.1 = k at *
      have hrd : readR bs (p + k) n = ([], 10, 0) := by unfold readR; rw [if_neg (by omega), if_pos (by omega)]
      have HRD := Lib.hid hrd
      have HN := Lib.hid hN
      have hn64 : (n : Int) ≤ 9223372036854775807 := by omega
      clear hN hr he hne hrd hMt e
      have hgl : g < w.heap.size := blk_lt hRB.out.blk
      rcases hM with ⟨hneg, rfl⟩ | ⟨hneg, rfl⟩
      · exfalso; omega
      · go_enter Try.func34, Try.ntmps34
        go_wp2_with (first | (go_at_call 31; refine HN.out.mono ?_; rintro e w1 ⟨rfl, hR1, hF1⟩; have HR1 := Lib.hid hR1; have HF1 := Lib.hid hF1; clear hR1 hF1) | (go_at_call 36; (with_reducible refine (RefRaw_any _ g base v bs (p + k) n HR1.out hsm (by omega) hn64).mono ?_); rintro e w2 ⟨u, rfl, ho2, hR2, hF2⟩; rw [HRD.out] at ho2 hR2 ⊢; have y1 := blk_frozen hR2.blk 1; have y2 := hR2.cells.2; have HO2 := Lib.hid ho2; have HR2 := Lib.hid hR2; have HF2 := Lib.hid hF2; clear ho2 hR2 hF2))
        go_ret2
        have hmv := HR2.out.move (q := p) hp
        have hF4 : Fr (fun i => i = g) w2 (w2.setCell ⟨g, 1, none⟩ (.int .i64 (p : Int))) := (Fr.refl _ _).set _ _ (fun _ => rfl)
        exact ⟨_, rfl, own_less (own_fr HO2.out hF4 (fun b hb e => by have := (World.ownsRow.lt HO2.out b hb).1; have := HF1.out.size; omega)) HF1.out.size, hmv, (HF1.out.trans HF2.out (fun _ _ h => h)).trans hF4 (fun _ _ h => h)⟩
    · have e : readB bs p most = ((bs.take (p + (look (rest bs p)).2.1 + (look (rest bs p)).1)).drop (p + (look (rest bs p)).2.1), 0, (look (rest bs p)).2.1 + (look (rest bs p)).1) := by unfold readB; rw [if_pos he, hMt, if_neg hle, if_neg hsh]
      rw [e]
      generalize (look (rest bs p)).1 = n at *
      generalize (look (rest bs p)).2.1 = k at *
      have hrd : readR bs (p + k) n = ((bs.take (p + k + n)).drop (p + k), 0, n) := by unfold readR; rw [if_neg (by omega), if_neg (by omega), Int.toNat_natCast]
      have HRD := Lib.hid hrd
      have HN := Lib.hid hN
      have hn64 : (n : Int) ≤ 9223372036854775807 := by omega
      clear hN hr he hne hrd hMt e
      rcases hM with ⟨hneg, rfl⟩ | ⟨hneg, rfl⟩
      all_goals
        go_enter Try.func34, Try.ntmps34
        go_wp2_with (first | (go_at_call 31; refine HN.out.mono ?_; rintro e w1 ⟨rfl, hR1, hF1⟩; have HR1 := Lib.hid hR1; have HF1 := Lib.hid hF1; clear hR1 hF1) | (go_at_call 36; (with_reducible refine (RefRaw_any _ g base v bs (p + k) n HR1.out hsm (by omega) hn64).mono ?_); rintro e w2 ⟨u, rfl, ho2, hR2, hF2⟩; rw [HRD.out] at ho2 hR2 ⊢; have HO2 := Lib.hid ho2; have HR2 := Lib.hid hR2; have HF2 := Lib.hid hF2; clear ho2 hR2 hF2))
        go_ret2
        exact ⟨_, rfl, own_less HO2.out HF1.out.size, by rw [← Nat.add_assoc]; exact HR2.out, HF1.out.trans HF2.out (fun _ _ h => h)⟩
  · have e : readB bs p most = ([], (readN (rest bs p) (M : Int)).2.1, 0) ∧ (readN (rest bs p) (M : Int)).2.2 = 0 := by
      unfold readB readN at *
      by_cases he : (look (rest bs p)).2.2 = 0
      · rw [if_pos he] at *
        by_cases hm : M < (look (rest bs p)).1
        · have hm' : (M : Int) < ((look (rest bs p)).1 : Int) := by omega
          rw [hMt, if_pos hm]
          simp [he, hm']
        · rw [if_neg (by omega)] at hne; exact absurd rfl hne
      · simp only [if_neg he]; exact ⟨trivial, trivial⟩
    rw [e.1]
    rw [e.2] at hN
    generalize readN (rest bs p) (M : Int) = r at *
    obtain ⟨rn, rc, rd⟩ := r
    simp only at hN hne
    have hk : ((rc : Int) != 0) = true := by simp; omega
    have HN := Lib.hid hN
    clear hN e hne hR hMt
    rcases hM with ⟨hneg, rfl⟩ | ⟨hneg, rfl⟩
    all_goals
      go_enter Try.func34, Try.ntmps34
      go_wp2_with (go_at_call 31; refine HN.out.mono ?_; rintro e w1 ⟨rfl, hR1, hF1⟩)
      go_ret2
      exact ⟨_, rfl, World.ownsRow_nil _ _ _ _, hR1, hF1⟩

end Go.Proofs.Ytpiainanlmpieaa
