/- AsmWords' walk. -/
import Derived.Test.YtfodaegdkcbenaaEa
import Derived.Test.YtfodaegdkcbenaaGe
namespace Go.Proofs.Ytfodaegdkcbenaa
open Go.RowKit Go.Proofs.YtfodaegdkcbenaaW.PrintWords Go.Proofs.YtfodaegdkcbenaaW.PrintLast Go.Proofs.YtfodaegdkcbenaaW.PrintMore
open Go.Proofs.Ytfodaegdkcbenaa.PRef
set_option maxRecDepth 100000 in
set_option maxHeartbeats 4000000 in
theorem words_walk (s : ByteArray) (w : World) :
    Calls Try.prog 3 #[.string s] w fun e w' => e = .returned (.bool true) ∧ Below w.heap.size w w' := by
  by_cases hs : s.size ≤ 8000
  case neg =>
    have hs2 : (8000 : Int) < (s.size : Int) := by omega
    go_enter Try.func3, Try.ntmps3
    go_wp2
    go_ret
    exact ⟨rfl, Below.refl _ _⟩
  case pos =>
  have hs2 : ¬ (8000 : Int) < (s.size : Int) := by omega
  have hc := wordsA_count s.data.toList []
  simp only [Array.length_toList] at hc
  have hcnt : (strs (wordsL s.data.toList)).length ≤ 1000001 := by rw [strs_length]; unfold wordsL; have : s.data.size = s.size := rfl; omega
  have HN' := Lib.hid (fun W => Normal7_any W s (by omega))
  have HM := Lib.hid (fun W => Normal8_any W s (by omega))
  have HA := Lib.hid (fun W => Words5_any W s (by omega))
  have HF := Lib.hid (words_f s (by omega))
  have HT := Lib.hid (texts_f _ hcnt)
  clear hc hcnt
  generalize (⟨(normL s.data.toList).toArray⟩ : ByteArray) = nt at *
  generalize wordsL s.data.toList = ws at *
  go_enter Try.func3, Try.ntmps3
  go_wp2_with (first
    | (go_at_call 5; (with_reducible refine (HA.out _).mono ?_); rintro e w1 ⟨u, rfl, hu, hb⟩; obtain ⟨A, c, rfl, hc, hC⟩ := srow_read hu; have HC := Lib.hid (And.intro hc hC); have HB := Lib.hid hb; clear hu hc hC hb)
    | (go_at_call 6; (with_reducible refine (backstayref09_Words.calls _ s _ w1 HF.out).mono ?_); rintro e w2 ⟨u, rfl, hu, hb⟩; obtain ⟨B, d, rfl, hd, hD⟩ := Kd.R_reads hu; have HC2 := Lib.hid (Kd.C_below HC.out.2 hb); have HD := Lib.hid (And.intro hd hD); have HB2 := Lib.hid (below_step HB.out hb); clear hu hb hd hD)
    | (go_at_call 4; (with_reducible refine (backstayref09_Texts.calls _ A c _ B d _ true w2 HC2.out HC.out.1 HD.out.2 HD.out.1 HT.out).mono ?_); rintro e w3 ⟨rfl, ⟨nd, rfl⟩⟩; have HB3 := Lib.hid (pw_below_drewN HB2.out nd))
    | (go_at_call 7; (with_reducible refine (HN'.out _).mono ?_); rintro e w4 ⟨rfl, hb⟩; have HB4 := Lib.hid (below_step HB3.out hb); clear hb)
    | (go_at_call 8; (with_reducible refine (HM.out _).mono ?_); rintro e w5 ⟨rfl, hb⟩; have HB5 := Lib.hid (below_step HB4.out hb); clear hb))
  go_ret
  exact ⟨rfl, HB5.out⟩
end Go.Proofs.Ytfodaegdkcbenaa
