/- VaryZigs' walk: zigzag, there and back; nearer to 0 it is no wider; signed numbers are read within their bounds alone. -/
import Derived.Test.YtpiainanlmpieaaVf
import Derived.Test.YtpiainanlmpieaaVo
import Derived.Deep.DeepCutAuto
import Derived.Deep.CutBlock
import Derived.OpenShut
namespace Go.Proofs.Ytpiainanlmpieaa
open Go.RowKit Go.Shelf Go.Proofs.YtpiainanlmpieaaW.PrintWords Go.Proofs.YtpiainanlmpieaaW.PrintLast Go.Proofs.YtpiainanlmpieaaW.PrintMore
attribute [local go_sem] max2_int min2_int max_two min_two max_three min_three max_four min_four

theorem zag_zig (a : Int) : zag (Lib.zigzag a) = a := by
  unfold zag Lib.zigzag
  split <;> split <;> omega

theorem zag_bounds (n : Nat) (hn : n < 18446744073709551616) : -9223372036854775808 ≤ zag n ∧ zag n ≤ 9223372036854775807 := by
  unfold zag; split <;> omega

theorem zig_zag (n : Nat) : Lib.zigzag (zag n) = n := by
  unfold zag Lib.zigzag
  split <;> split <;> omega

theorem zig_inj {a b : Int} (h : Lib.zigzag a = Lib.zigzag b) : a = b := by rw [← zag_zig a, ← zag_zig b, h]

theorem zig_near {a b : Int} (h : mx a (-a) < mx b (-b)) : Lib.zigzag a ≤ Lib.zigzag b := by
  unfold mx at h
  unfold Lib.zigzag
  repeat' split at h
  all_goals (split <;> split <;> omega)

theorem rest_zero (n : Nat) : rest (encI n) 0 = VP.enc n := by
  simp only [rest, List.drop_zero, encI, List.map_map]
  exact List.map_id' _

theorem readS_zig (a least most : Int) (h0 : -9223372036854775808 ≤ a) (h1 : a ≤ 9223372036854775807) :
    readS (rest (encI (Lib.zigzag a)) 0) least most = if a < least ∨ most < a then (0, 12, 0) else (a, 0, VP.wid (Lib.zigzag a)) := by
  have h := look_enc (Lib.zigzag a) (zigzag_lt a h0 h1) []
  rw [List.append_nil] at h
  unfold readS
  rw [rest_zero, h, zag_zig]
  simp

theorem encI_bytes (n : Nat) (hn : n < 18446744073709551616) : ∀ b ∈ encI n, 0 ≤ b ∧ b ≤ 255 := by
  intro b hb
  obtain ⟨y, hy, rfl⟩ := List.mem_map.1 hb
  have := VP.enc_lt n hn y hy
  simp only [Int.ofNat_eq_natCast]
  omega

theorem own_C {w : World} {base : Nat} {A : Option Addr} {n c : Nat} {bs : List Int} (h : w.ownsRow base 5 1 (.slice A n c) bs.length (nums .u8 bs)) : n = bs.length ∧ n ≤ c ∧ (Kd.int .u8).C w A bs.length bs :=
  Kd.R_reads' (Kd.R_of_own (ok := fun _ => True) h (fun _ _ => trivial))

set_option maxRecDepth 100000 in
set_option maxHeartbeats 4000000 in
set_option linter.unusedVariables false in
theorem zigs_walk (a0 a1 a2 a3 a4 : Int) (w0 : (Lit.int .u64 a0).wf = true) (w1 : (Lit.int .i64 a1).wf = true) (w2 : (Lit.int .i64 a2).wf = true) (w3 : (Lit.int .i64 a3).wf = true) (w4 : (Lit.int .i64 a4).wf = true) (w : World) :
    Calls Try.prog 6 #[.int .u64 a0, .int .i64 a1, .int .i64 a2, .int .i64 a3, .int .i64 a4] w fun e w' => e = .returned (.bool true) ∧ Below w.heap.size w w' := by
  have b0 := Go.bounds_u64 w0
  have b1 := Go.bounds_i64 w1
  have b2 := Go.bounds_i64 w2
  clear w0 w1 w2 w3 w4
  obtain ⟨n, rfl⟩ := Int.eq_ofNat_of_zero_le b0.1
  have B0 := Lib.hid b0
  have B1 := Lib.hid b1
  have B2 := Lib.hid b2
  go_enter Try.func6, Try.ntmps6
  go_upto_region 3 with (first | (go_at_call 10; refine (alive_any _).mono ?_; rintro e v1 ⟨rfl, hb1⟩) | (go_at_call 17; (with_reducible refine (Zig_any a1 B1.out.1 B1.out.2 _).mono ?_); rintro e w' ⟨rfl, rfl⟩) | (go_at_call 17; (with_reducible refine (Zig_any a2 B2.out.1 B2.out.2 _).mono ?_); rintro e w' ⟨rfl, rfl⟩))
  go_cut [14] (fun nv W => ∃ nb : Bool, nv = .bool nb ∧ (nb = true → mx a1 (-a1) < mx a2 (-a2)) ∧ Below w.heap.size w W)
  case first =>
    go_wp2
    all_goals go_meet
    all_goals refine ⟨_, rfl, fun h => ?_, hb1⟩
    all_goals (simp only [decide_eq_true_eq, Bool.false_eq_true] at h)
    all_goals first | (unfold mx; repeat' split; all_goals omega) | omega
  case rest =>
  obtain ⟨nb, rfl, hnb, hb2⟩ := hcut
  have hz1 := zigzag_lt a1 B1.out.1 B1.out.2
  have hz2 := zigzag_lt a2 B2.out.1 B2.out.2
  have HS := Lib.hid (readS_zig a1 a3 a4 B1.out.1 B1.out.2)
  have HZ := Lib.hid (fun w => Zag_any (Lib.zigzag a1) hz1 w)
  rw [zag_zig] at HZ
  have hzn := zag_bounds n (by omega)
  have HZn := Lib.hid (fun w => Zag_any n (by omega) w)
  have HZi := Lib.hid (fun w => Zig_any (zag n) hzn.1 hzn.2 w)
  rw [zig_zag] at HZi
  have HE := Lib.hid (zag_zig a1)
  have HI := Lib.hid (@zig_inj a1 a2)
  have HN := Lib.hid (fun h => @zig_near a1 a2 h)
  have HNB := Lib.hid hnb
  clear hnb
  go_wp2_with fail
  have hT : TapeIs (wc.alloc (.cells #[.slice none 0 0] 32)) wc.heap.size (wc.heap.size) (.slice none 0 0) [] := ⟨World.alloc_heap_new _ _, World.ownsRow_nil _ _ _ _⟩
  refine (TSigned_any _ _ wc.heap.size a1 B1.out.1 B1.out.2 _ [] hT (by simp) (by simp)).mono ?_
  rintro e w1 ⟨rfl, ⟨v, hT1, _⟩, hF⟩
  have hbw1 : Below w.heap.size w w1 := by
    refine hb2.trans ?_
    have hsz := hF.size
    simp at hsz
    have := hb2.size
    refine Below.mono ?_ this
    refine Below.trans ((Below.refl _ wc).alloc (Nat.le_refl _) _) (hF.below (by simp) (fun i hi h => ?_))
    rcases h with rfl | h
    · omega
    · simp [Value.ownBlock] at h
  have hwid := VP.wid_pos (Lib.zigzag a1)
  go_wp2_with fail
  refine (TAll_any _ _ _ _ _ hT1 (by rw [List.nil_append, encI_length]; omega)).mono ?_
  rintro e w2 ⟨u, rfl, ho, hb3⟩
  obtain ⟨A, c, rfl⟩ := own_slice ho
  have hC := own_C ho
  rw [List.nil_append] at hC ho
  go_wp2_with fail
  refine (On_any A c (encI (Lib.zigzag a1)) w2 hC.2.2 (by rw [encI_length]; omega) (encI_bytes _ hz1)).mono ?_
  rintro e w3 ⟨g, rv, rfl, hg, hR, hb4⟩
  go_wp2_with fail
  refine (RSigned_any w3 g _ rv _ 0 a3 a4 hR).mono ?_
  rintro e w4 ⟨rfl, hR4, hF4⟩
  have hs := HS.out
  rw [hs] at hR4 ⊢
  clear hs HS
  have hbw4 : Below w.heap.size w w4 := by
    have := hb2.size
    have := hb3.size
    have := hb4.size
    have := hbw1.size
    refine (hbw1.trans ((hb3.trans (hb4.mono (by omega))).mono (by omega))).trans ?_
    refine hF4.below (by omega) (fun i hi => by omega)
  have hw1 := @VP.wid_mono (Lib.zigzag a1) (Lib.zigzag a2)
  have HW := Lib.hid hw1
  clear hw1 hwid hb1 hb2 hb3 hb4 hbw1 hR hF hT hT1 ho hC hF4
  generalize zag n = zn at *
  generalize hx : Lib.zigzag a1 = x at *
  generalize hy : Lib.zigzag a2 = y at *
  have HB := Lib.hid hbw4
  have HX := Lib.hid hx
  have HY := Lib.hid hy
  clear hbw4 hx hy
  have HX1 := Lib.hid hz1
  have HY1 := Lib.hid hz2
  clear hz1 hz2 hzn
  have hxy : ((x : Int) == (y : Int)) = (a1 == a2) := by
    rw [Bool.eq_iff_iff]
    simp only [beq_iff_eq]
    constructor
    · intro h
      exact HI.out (by omega)
    · intro h
      have h1 := HX.out
      have h2 := HY.out
      rw [h, h2] at h1
      rw [h1]
  have HXY := Lib.hid hxy
  clear hxy
  have hww : nb = true → (VP.wid x : Int) ≤ (VP.wid y : Int) := fun h => by
    have := HW.out (HN.out (HNB.out h))
    omega
  have HWW := Lib.hid hww
  clear hww
  obtain ⟨e12, he12⟩ : ∃ e, e = (a1 == a2) := ⟨_, rfl⟩
  have exy : ((x : Int) == (y : Int)) = e12 := by rw [he12]; exact HXY.out
  have e12b := he12.symm
  clear he12 HXY
  by_cases hb : a1 < a3 ∨ a4 < a1
  · rw [if_pos hb] at hR4 ⊢
    have HR := Lib.hid hR4
    clear hR4
    rcases hb with hb | hb
    · have h3 : ¬ a3 ≤ a1 := by omega
      cases e12 <;> cases nb
      all_goals
        have hwn := HWW.out
        go_wp2_with (first | (go_at_call 19; (with_reducible refine (HZ.out _).mono ?_); rintro e w' ⟨rfl, rfl⟩) | (go_at_call 19; (with_reducible refine (HZn.out _).mono ?_); rintro e w' ⟨rfl, rfl⟩) | (go_at_call 17; (with_reducible refine (HZi.out _).mono ?_); rintro e w' ⟨rfl, rfl⟩) | (go_at_call 13; (with_reducible refine (Width_any x HX1.out _).mono ?_); rintro e w' ⟨rfl, rfl⟩) | (go_at_call 13; (with_reducible refine (Width_any y HY1.out _).mono ?_); rintro e w' ⟨rfl, rfl⟩) | (go_at_call 28; (with_reducible refine (At_any _ _ _ _ _ _ HR.out).mono ?_); rintro e w' ⟨rfl, rfl⟩))
        all_goals (go_ret; exact ⟨rfl, HB.out⟩)
    · have h3 : ¬ a1 ≤ a4 := by omega
      cases e12 <;> cases nb
      all_goals
        have hwn := HWW.out
        go_wp2_with (first | (go_at_call 19; (with_reducible refine (HZ.out _).mono ?_); rintro e w' ⟨rfl, rfl⟩) | (go_at_call 19; (with_reducible refine (HZn.out _).mono ?_); rintro e w' ⟨rfl, rfl⟩) | (go_at_call 17; (with_reducible refine (HZi.out _).mono ?_); rintro e w' ⟨rfl, rfl⟩) | (go_at_call 13; (with_reducible refine (Width_any x HX1.out _).mono ?_); rintro e w' ⟨rfl, rfl⟩) | (go_at_call 13; (with_reducible refine (Width_any y HY1.out _).mono ?_); rintro e w' ⟨rfl, rfl⟩) | (go_at_call 28; (with_reducible refine (At_any _ _ _ _ _ _ HR.out).mono ?_); rintro e w' ⟨rfl, rfl⟩))
        all_goals (go_ret; exact ⟨rfl, HB.out⟩)
  · rw [if_neg hb] at hR4 ⊢
    have HR := Lib.hid hR4
    clear hR4
    have h3 : a3 ≤ a1 := by omega
    have h4 : a1 ≤ a4 := by omega
    clear hb
    cases e12 <;> cases nb
    all_goals
      have hwn := HWW.out
      go_wp2_with (first | (go_at_call 19; (with_reducible refine (HZ.out _).mono ?_); rintro e w' ⟨rfl, rfl⟩) | (go_at_call 19; (with_reducible refine (HZn.out _).mono ?_); rintro e w' ⟨rfl, rfl⟩) | (go_at_call 17; (with_reducible refine (HZi.out _).mono ?_); rintro e w' ⟨rfl, rfl⟩) | (go_at_call 13; (with_reducible refine (Width_any x HX1.out _).mono ?_); rintro e w' ⟨rfl, rfl⟩) | (go_at_call 13; (with_reducible refine (Width_any y HY1.out _).mono ?_); rintro e w' ⟨rfl, rfl⟩) | (go_at_call 28; (with_reducible refine (At_any _ _ _ _ _ _ HR.out).mono ?_); rintro e w' ⟨rfl, rfl⟩))
      all_goals (go_ret; exact ⟨rfl, HB.out⟩)
end Go.Proofs.Ytpiainanlmpieaa
