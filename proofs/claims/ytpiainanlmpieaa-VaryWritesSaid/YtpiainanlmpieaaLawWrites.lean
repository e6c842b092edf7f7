/- VaryWrites' walk. -/
import Derived.Test.YtpiainanlmpieaaVj
import Derived.Deep.DeepCutAuto
import Derived.Deep.CutBlock
import Derived.LaidEqlPtr
namespace Go.Proofs.Ytpiainanlmpieaa
open Go.RowKit Go.Shelf Go.Proofs.YtpiainanlmpieaaW.PrintWords Go.Proofs.YtpiainanlmpieaaW.PrintLast Go.Proofs.YtpiainanlmpieaaW.PrintMore
open Go.Proofs.Ytpiainanlmpieaa.Pgreat

theorem own_C' {w : World} {base : Nat} {v : Value} {bs : List Int} (h : w.ownsRow base 5 1 v bs.length (nums .u8 bs)) : ∃ A c, v = .slice A bs.length c ∧ bs.length ≤ c ∧ (Kd.int .u8).C w A bs.length bs := by
  obtain ⟨A, c, rfl⟩ := own_slice h
  exact ⟨A, c, rfl, (row_C h).2.1, (row_C h).2.2⟩

theorem bsz {b : Nat} {w1 W : World} (e : w1.heap.size = b) (h : Below b w1 W) : b ≤ W.heap.size := e ▸ h.size

theorem tape_same (W : World) (a : Addr) : (binOp .eql 39 (.pointer (some a)) (.pointer (some a))).run Try.prog W = .ok (.bool true) W := by
  obtain ⟨j, hj⟩ := Option.isSome_iff_exists.1 (show (Try.prog.info? 32).isSome = true by kernel_rfl)
  exact run_eql_ptr_same W a Try.underlying39 hj
attribute [local go_sem] tape_same

theorem after_tape {b : Nat} {w1 w3 w4 w5 : World} {vt vw : Value} {xs : List Int} (e : w1.heap.size = b) (h : Below b w1 w4) (hF : Fr (fun i => i = b ∨ vt.ownBlock = some i) w4 w5) (hW : WAt w3 b b vt vw xs) : Below b w1 w5 := by
  refine h.trans (hF.below (bsz e h) (fun i hi hS => ?_))
  rcases hS with rfl | hS
  · omega
  · have := (World.ownsRow.lt hW.tape.own i hS).1; omega

theorem own_after {W W2 : World} {g lo n c : Nat} {vt vw : Value} {A : Option Addr} {bs : List Int} (h : Own W g lo vt vw (.slice A n c) bs) (hgrow : W.grownBy W2 vw.ownBlock) :
    (Kd.int .u8).C W2 A bs.length bs ∧ ∀ a, A = some a → a.block ≠ g ∧ vt.ownBlock ≠ some a.block ∧ a.block < W2.heap.size := by
  have h2 := own_fr h.row (Fr.grown (S := fun i => vw.ownBlock = some i) hgrow (fun i _ e => e)) (fun b hb => (h.far b hb).2.2)
  refine ⟨(row_C h2).2.2, fun a ha => ?_⟩
  subst ha
  exact ⟨(h.far _ rfl).1, (h.far _ rfl).2.1, (World.ownsRow.lt h2 _ rfl).2⟩

theorem quiet_eq {P : Program} {f : FuncId} {args : Array Value} {w : World} {n : Nat} {v : Value}
    (h : Calls P f args (w.drewN n) fun e w' => e = .returned v ∧ w.drewN n = w') : Calls P f args (w.drewN n) fun e w'' => e = .returned v ∧ ∃ m, w'' = w.drewN m :=
  h.mono fun _ _ ⟨he, hm⟩ => ⟨he, n, hm.symm⟩

set_option maxRecDepth 100000 in
set_option maxHeartbeats 4000000 in
theorem writes_walk (A : Option Addr) (c : Nat) (ops : List S35) (w : World) (hC : Kd.C k35 w A ops.length ops) (hlc : ops.length ≤ c) (hcm : c ≤ 9223372036854775807) (hfit : ∀ o ∈ ops, OpFits o) :
    Calls Try.prog 4 #[.slice A ops.length c] w fun e w' => e = .returned (.bool true) ∧ Below w.heap.size w w' := by
  have HG := Lib.hid (great_any A c ops w hC hlc hcm hfit)
  have HC := Lib.hid hC
  have HFit := Lib.hid hfit
  clear hC hfit
  by_cases hg : tooGreat ops = true
  · rw [hg] at HG
    go_enter Try.func4, Try.ntmps4
    go_wp2_with (go_at_call 14; refine HG.out.mono ?_; rintro e w1 ⟨rfl, m1, rfl⟩)
    go_ret
    exact ⟨rfl, pw_below_drewN (Below.refl _ _) _⟩
  · have hg : tooGreat ops = false := by simpa using hg
    obtain ⟨hl, hsum⟩ := tooGreat_no hg
    rw [hg] at HG
    clear hg
    have HSum := Lib.hid hsum
    clear hsum
    go_enter Try.func4, Try.ntmps4
    go_wp2_with (go_at_call 14; refine HG.out.mono ?_; rintro e w1 ⟨rfl, m1, rfl⟩)
    have hC1 := Lib.hid (Kd.C_below HC.out (pw_below_drewN (Below.refl _ _) m1))
    have hB1 := Lib.hid (pw_below_drewN (Below.refl w.heap.size w) m1)
    have hsz : (w.drewN m1).heap.size = w.heap.size := by simp
    have HSZ := Lib.hid hsz
    clear hsz
    generalize w.drewN m1 = w1 at *
    have hT0 : TapeIs (w1.alloc (.cells #[.slice none 0 0] 32)) w1.heap.size w1.heap.size (.slice none 0 0) [] := ⟨World.alloc_heap_new _ _, World.ownsRow_nil _ _ _ _⟩
    have hW0 : WAt (w1.alloc (.cells #[.slice none 0 0] 32)) w1.heap.size w1.heap.size (.slice none 0 0) (.slice none 0 0) [] := ⟨hT0, World.ownsRow_nil _ _ _ _, fun b hb => by cases hb⟩
    have hB0 : Below w1.heap.size w1 (w1.alloc (.cells #[.slice none 0 0] 32)) := below_alloc (Below.refl _ _) _
    rw [HSZ.out] at hW0 hB0
    have HW0 := Lib.hid hW0
    have HB0 := Lib.hid hB0
    clear hT0 hW0 hB0
    go_loopw [15, 4] (fun i v4 wr => ∃ (k : Nat) (vt vw : Value) (xs : List Int), i = .int .i64 k ∧ vw = v4 ∧ k ≤ ops.length ∧ Aside0 (WAt wr w.heap.size w.heap.size vt vw xs) ∧ Aside0 (Below w.heap.size w1 wr) ∧ Aside0 (xs.length + opsSum (ops.drop k) ≤ 9 * k + 20000)) (fun i _ _ => ops.length - (intOf i).toNat)
    case atStart => exact ⟨0, _, _, [], rfl, rfl, Nat.zero_le _, Aside0.mk HW0.out, Aside0.mk HB0.out, Aside0.mk (by have := HSum.out; simpa using this)⟩
    case round =>
      clear HW0 HB0
      obtain ⟨k, vt, vw, xs, rfl, rfl, hk, HW, HB, HL⟩ := hrel
      by_cases hkl : k < ops.length
      · have hkl' : ((k : Int) < (ops.length : Int)) := by omega
        obtain ⟨ad, A5, c5, rfl, hx0, hx1, hx2, hx3, hx4, hx5, hl5, hi5⟩ := at_T35 hC1.out (k : Int) (by omega) (by omega)
        have eo : rd_T35 ops (k : Int) = ops[k] := by
          unfold rd_T35
          rw [Int.toNat_natCast, List.getD_eq_getElem?_getD, List.getElem?_eq_getElem hkl]
          rfl
        have hf := HFit.out ops[k] (List.getElem_mem hkl)
        have hds := opsSum_drop ops k hkl
        rw [eo] at hx0 hx1 hx2 hx3 hx4 hx5 hl5 hi5
        clear eo hx1 hx4
        generalize ops[k] = o at *
        obtain ⟨f0, f1, f2, f3, f4, f5⟩ := o
        obtain ⟨b0, _, b2, b3, _, b5, bsm⟩ := hf
        simp only at *
        obtain ⟨n, rfl⟩ := Int.eq_ofNat_of_zero_le b2.1
        simp only [Int.toNat_natCast] at *
        have HI5 := Lib.hid hi5
        have HDS := Lib.hid hds
        have HL5 := Lib.hid hl5
        have HB3 := Lib.hid b3
        have HB5 := Lib.hid b5
        have hn2 : n < 18446744073709551616 := by omega
        have HNn := Lib.hid hn2
        have HX := Lib.hid (fun W (h : Below w1.heap.size w1 W) => And.intro (pw_cell_below h hx0) (And.intro (pw_cell_below h hx2) (And.intro (pw_cell_below h hx3) (And.intro (pw_cell_below h hx5) (Kd.C_below hi5 h)))))
        rw [HSZ.out] at HX
        clear hi5 hds hl5 b2 b3 b5 hn2 hx0 hx2 hx3 hx5
        obtain ⟨y0, y2, y3, y5, yc⟩ := HX.out _ HB.out
        have YC := Lib.hid yc
        clear yc
        go_wp2_with (go_at_call 15; refine (Twin_any A5 c5 f5 _ YC.out HL5.out (by omega)).mono ?_; rintro e w2 ⟨v6, rfl, ho6, hb2⟩)
        have HO6 := Lib.hid (Own.made HW.out ho6)
        have HW2 := Lib.hid (HW.out.below hb2)
        have HB22 := Lib.hid (below_then HB.out (bsz HSZ.out HB.out) hb2)
        obtain ⟨lo, hlo⟩ : ∃ lo, wr.heap.size = lo := ⟨_, rfl⟩
        have hlo2 := bsz HSZ.out HB.out
        rw [hlo] at HO6 hlo2
        have HLO := Lib.hid hlo2
        clear hlo hlo2
        clear ho6 hb2 y0 y2 y3 y5 YC
        obtain ⟨y0, y2, y3, y5, yc⟩ := HX.out _ HB22.out
        have YC := Lib.hid yc
        clear yc
        go_quiet (first | (go_at_call 13; refine quiet_eq (Width_any n HNn.out _)) | (go_at_call 16; refine quiet_eq (RefWidth_any n HNn.out _)) | (go_at_call 17; refine quiet_eq (Zig_any f3 HB3.out.1 HB3.out.2 _)) | (go_at_call 18; refine quiet_eq (RefZig_any f3 HB3.out.1 HB3.out.2 _)) | (go_at_call 19; refine quiet_eq (Zag_any n HNn.out _)) | (go_at_call 20; refine quiet_eq (RefZag_any n HNn.out _)))
        have hlx := HL.out
        have hdx := HDS.out
        have hlxs : xs.length + f5.length ≤ 20900 := by omega
        have HLXS := Lib.hid hlxs
        have hlz : (encI n).length ≤ 9 := by rw [encI_length]; exact (VP.wid_pos n).2
        have HENC := Lib.hid hlz
        have hlz2 : (encI (Lib.zigzag f3)).length ≤ 9 := by rw [encI_length]; exact (VP.wid_pos _).2
        have HENZ := Lib.hid hlz2
        have hlz3 : (encI f5.length).length ≤ 9 := by rw [encI_length]; exact (VP.wid_pos _).2
        have HEN5 := Lib.hid hlz3
        clear hlx hdx hlxs hlz hlz2 hlz3
        obtain ⟨A6, c6, rfl⟩ := own_slice HO6.out.row
        have HW2' := Lib.hid (HW2.out.below (pw_below_drewN (Below.refl _ _) nq))
        have HO6' := Lib.hid (HO6.out.below (pw_below_drewN (Below.refl _ _) nq))
        have HB2' := Lib.hid (pw_below_drewN HB22.out nq)
        clear HW2 HO6 HB22 y0 y2 y3 y5 YC
        generalize w2.drewN nq = w2 at *
        obtain ⟨y0, y2, y3, y5, yc⟩ := HX.out _ HB2'.out
        have YC := Lib.hid yc
        clear yc
        go_upto_block 2 with fail
        go_cut [4, 7] (fun s4 s7 W => s7 = .bool true ∧ ∃ (vt2 vw3 : Value) (ys : List Int), vw3 = s4 ∧ Aside0 (WAt W w.heap.size w.heap.size vt2 vw3 ys) ∧ Aside0 (Own W w.heap.size lo vt2 vw3 (.slice A6 f5.length c6) f5) ∧ Aside0 (Below w.heap.size w1 W) ∧ Aside0 (ys.length ≤ xs.length + f5.length + 9))
        case first =>
          by_cases h0 : f0 = 0
          · subst h0
            go_wp2_with (first | (go_at_call 21; (with_reducible refine (RefNumber_any n HNn.out _).mono ?_); rintro e w3 ⟨v7, rfl, ho7, hb7⟩; have HW3 := Lib.hid (HW2'.out.below hb7); have HO3 := Lib.hid (HO6'.out.below hb7); have HBB := Lib.hid (below_then HB2'.out (bsz HSZ.out HB2'.out) hb7); obtain ⟨A7, c7, rfl⟩ := own_slice ho7; have HR7 := Lib.hid (row_C ho7).2.2; clear ho7 hb7) | ((with_reducible refine gate_builtin (b := .append) (xs := #[.tmp 74, .tmp 80]) rfl ?_); at_builtin; refine Kd.R_append_rows (Kd.int .u8) (w0 := w1) (Rr := fun x cs => cs = [Value.int .u8 x]) w.heap.size rfl (.tmp 74) (.tmp 80) 30 5 (.int .u8 0) 1 rfl Try.underlying30 info5 rfl (by decide) (by omega) vw xs (encI n) A7 ((encI n)).length c7 (fun _ => True) (fun _ => False) rfl rfl (Kd.R_of_own HW3.out.want (fun _ _ => trivial)) HR7.out (fun _ _ h => h) (fun _ h => h.elim) (fun _ _ => trivial) HBB.out (bsz HSZ.out HBB.out) (by have := HLXS.out; have := HENC.out; omega) ?_; intro vw2 w4 hR2 hB4 hgrow hat; obtain ⟨z0, z2, z3, z5, zc⟩ := HX.out _ hB4; clear zc; have HR2 := Lib.hid (Kd.own_of_R hR2); have HB4 := Lib.hid hB4; have HGR := Lib.hid hgrow; have HAT := Lib.hid hat; clear hR2 hB4 hgrow hat) | (go_at_call 22; (with_reducible refine (TNumber_any w4 w.heap.size w.heap.size n vt xs HNn.out (HW3.out.tape2 HGR.out) (bsz HSZ.out HB4.out) (by have := HLXS.out; omega)).mono ?_); rintro e w5 ⟨rfl, ⟨vt2, hT5, hv5⟩, hF5⟩; have HT5 := Lib.hid hT5; have HV5 := Lib.hid hv5; have HF5 := Lib.hid hF5; clear hT5 hv5 hF5))
            go_meet
            exact ⟨rfl, vt2, _, _, rfl, Aside0.mk (HW3.out.wrote HAT.out HR2.out HT5.out HV5.out HF5.out), Aside0.mk (HO3.out.wrote (blk_lt HW3.out.tape.blk) HGR.out HAT.out HV5.out HF5.out), Aside0.mk (after_tape HSZ.out HB4.out HF5.out HW3.out), Aside0.mk (by rw [List.length_append]; have := HENC.out; omega)⟩
          · by_cases h1 : f0 = 1
            · subst h1
              clear h0
              go_wp2_with (first | (go_at_call 18; (with_reducible refine (RefZig_any f3 HB3.out.1 HB3.out.2 _).mono ?_); rintro e w' ⟨rfl, rfl⟩) | (go_at_call 21; (with_reducible refine (RefNumber_any (Lib.zigzag f3) (zigzag_lt f3 HB3.out.1 HB3.out.2) _).mono ?_); rintro e w3 ⟨v7, rfl, ho7, hb7⟩; have HW3 := Lib.hid (HW2'.out.below hb7); have HO3 := Lib.hid (HO6'.out.below hb7); have HBB := Lib.hid (below_then HB2'.out (bsz HSZ.out HB2'.out) hb7); obtain ⟨A7, c7, rfl⟩ := own_slice ho7; have HR7 := Lib.hid (row_C ho7).2.2; clear ho7 hb7) | ((with_reducible refine gate_builtin (b := .append) (xs := #[.tmp 94, .tmp 101]) rfl ?_); at_builtin; refine Kd.R_append_rows (Kd.int .u8) (w0 := w1) (Rr := fun x cs => cs = [Value.int .u8 x]) w.heap.size rfl (.tmp 94) (.tmp 101) 30 5 (.int .u8 0) 1 rfl Try.underlying30 info5 rfl (by decide) (by omega) vw xs (encI (Lib.zigzag f3)) A7 ((encI (Lib.zigzag f3))).length c7 (fun _ => True) (fun _ => False) rfl rfl (Kd.R_of_own HW3.out.want (fun _ _ => trivial)) HR7.out (fun _ _ h => h) (fun _ h => h.elim) (fun _ _ => trivial) HBB.out (bsz HSZ.out HBB.out) (by have := HLXS.out; have := HENZ.out; omega) ?_; intro vw2 w4 hR2 hB4 hgrow hat; obtain ⟨z0, z2, z3, z5, zc⟩ := HX.out _ hB4; clear zc; have HR2 := Lib.hid (Kd.own_of_R hR2); have HB4 := Lib.hid hB4; have HGR := Lib.hid hgrow; have HAT := Lib.hid hat; clear hR2 hB4 hgrow hat) | (go_at_call 23; (with_reducible refine (TSigned_any w4 w.heap.size w.heap.size f3 HB3.out.1 HB3.out.2 vt xs (HW3.out.tape2 HGR.out) (bsz HSZ.out HB4.out) (by have := HLXS.out; omega)).mono ?_); rintro e w5 ⟨rfl, ⟨vt2, hT5, hv5⟩, hF5⟩; have HT5 := Lib.hid hT5; have HV5 := Lib.hid hv5; have HF5 := Lib.hid hF5; clear hT5 hv5 hF5))
              go_meet
              exact ⟨rfl, vt2, _, _, rfl, Aside0.mk (HW3.out.wrote HAT.out HR2.out HT5.out HV5.out HF5.out), Aside0.mk (HO3.out.wrote (blk_lt HW3.out.tape.blk) HGR.out HAT.out HV5.out HF5.out), Aside0.mk (after_tape HSZ.out HB4.out HF5.out HW3.out), Aside0.mk (by rw [List.length_append]; have := HENZ.out; omega)⟩
            · by_cases h2 : f0 = 2
              · subst h2
                clear h0 h1
                have hrb := RefBytes_any A5 c5 f5 w2 YC.out HL5.out (by omega)
                have hyl : (encI f5.length ++ f5).length ≤ f5.length + 9 := by rw [List.length_append]; have := HEN5.out; omega
                obtain ⟨ys, hys⟩ : ∃ ys, ys = encI f5.length ++ f5 := ⟨_, rfl⟩
                rw [← hys] at hyl
                simp only [← hys] at hrb
                have HRB := Lib.hid hrb
                have HYL := Lib.hid hyl
                have HYS := Lib.hid hys
                clear hrb hyl hys
                go_wp2_with (first | (go_at_call 24; (with_reducible refine HRB.out.mono ?_); rintro e w3 ⟨v7, rfl, ho7, hb7⟩; have HW3 := Lib.hid (HW2'.out.below hb7); have HO3 := Lib.hid (HO6'.out.below hb7); have HBB := Lib.hid (below_then HB2'.out (bsz HSZ.out HB2'.out) hb7); obtain ⟨A7, c7, rfl⟩ := own_slice ho7; have HR7 := Lib.hid (row_C ho7).2.2; clear ho7 hb7) | ((with_reducible refine gate_builtin (b := .append) (xs := #[.tmp 115, .tmp 121]) rfl ?_); at_builtin; refine Kd.R_append_rows (Kd.int .u8) (w0 := w1) (Rr := fun x cs => cs = [Value.int .u8 x]) w.heap.size rfl (.tmp 115) (.tmp 121) 30 5 (.int .u8 0) 1 rfl Try.underlying30 info5 rfl (by decide) (by omega) vw xs ys A7 ys.length c7 (fun _ => True) (fun _ => False) rfl rfl (Kd.R_of_own HW3.out.want (fun _ _ => trivial)) HR7.out (fun _ _ h => h) (fun _ h => h.elim) (fun _ _ => trivial) HBB.out (bsz HSZ.out HBB.out) (by have := HLXS.out; have := HYL.out; omega) ?_; intro vw2 w4 hR2 hB4 hgrow hat; obtain ⟨z0, z2, z3, z5, zc⟩ := HX.out _ hB4; clear zc; have HR2 := Lib.hid (Kd.own_of_R hR2); have HB4 := Lib.hid hB4; have HGR := Lib.hid hgrow; have HAT := Lib.hid hat; clear hR2 hB4 hgrow hat) | (go_at_call 25; (with_reducible refine (TBytes_any w4 w.heap.size w.heap.size vt xs A6 c6 f5 (HW3.out.tape2 HGR.out) (bsz HSZ.out HB4.out) (by have := HLXS.out; omega) (own_after HO3.out HGR.out).1 (own_after HO3.out HGR.out).2).mono ?_); rintro e w5 ⟨rfl, ⟨vt2, hT5, hv5⟩, hF5⟩; have HT5 := Lib.hid hT5; have HV5 := Lib.hid hv5; have HF5 := Lib.hid hF5; clear hT5 hv5 hF5))
                have hT5 := HT5.out
                rw [List.append_assoc, ← HYS.out] at hT5
                have HT5 := Lib.hid hT5
                clear hT5
                go_meet
                exact ⟨rfl, vt2, _, _, rfl, Aside0.mk (HW3.out.wrote HAT.out HR2.out HT5.out HV5.out HF5.out), Aside0.mk (HO3.out.wrote (blk_lt HW3.out.tape.blk) HGR.out HAT.out HV5.out HF5.out), Aside0.mk (after_tape HSZ.out HB4.out HF5.out HW3.out), Aside0.mk (by rw [List.length_append]; have := HYL.out; omega)⟩
              · go_wp2
                go_meet
                exact ⟨rfl, vt, _, xs, rfl, Aside0.mk HW2'.out, Aside0.mk HO6'.out, Aside0.mk HB2'.out, Aside0.mk (by omega)⟩
        case rest =>
        obtain ⟨rfl, vt2, vw3, ys, rfl, HWc, HOc, HBc, HLc⟩ := hcut
        clear y0 y2 y3 y5 YC HW2' HO6' HB2'
        obtain ⟨y0, y2, y3, y5, yc⟩ := HX.out _ HBc.out
        have hcv1 : ∀ m, (convert 30 9 (.slice A6 f5.length c6)).run Try.prog (wc.drewN m) = .ok (.string (strOfNums f5)) (wc.drewN m) := fun m => string_read (row_C (HOc.out.below (pw_below_drewN (Below.refl _ _) m)).row).2.2
        have hcv2 : ∀ m, (convert 30 9 (.slice A5 f5.length c5)).run Try.prog (wc.drewN m) = .ok (.string (strOfNums f5)) (wc.drewN m) := fun m => string_read (Kd.C_below yc (pw_below_drewN (Below.refl _ _) m))
        clear yc
        go_wp2
        go_quiet (fail)
        clear hcv1 hcv2 y0 y2 y3 y5
        have HWd := Lib.hid (HWc.out.below (pw_below_drewN (Below.refl _ _) nq))
        have HOd := Lib.hid (HOc.out.below (pw_below_drewN (Below.refl _ _) nq))
        have HBd := Lib.hid (pw_below_drewN HBc.out nq)
        have HLd := Lib.hid HLc.out
        clear HWc HOc HBc HLc
        generalize wc.drewN nq = wc at *
        go_wp2
        go_loopw [144] (fun i W => ∃ (j : Nat) (zs : List Int), i = .int .i64 j ∧ j ≤ f5.length ∧ zs.length = f5.length ∧ Aside0 (WAt W w.heap.size w.heap.size vt2 vw3 ys) ∧ Aside0 (Own W w.heap.size lo vt2 vw3 (.slice A6 f5.length c6) zs) ∧ Aside0 (Below w.heap.size w1 W)) (fun i _ => f5.length - (intOf i).toNat)
        case atStart => exact ⟨0, _, rfl, Nat.zero_le _, rfl, Aside0.mk HWd.out, Aside0.mk HOd.out, Aside0.mk HBd.out⟩
        case round =>
          obtain ⟨j, zs, rfl, hj, hzs, HWj, HOj, HBj⟩ := hrel
          by_cases hjl : j < f5.length
          · have hjl' : ((j : Int) < ((f5.length : Nat) : Int)) := by omega
            obtain ⟨g6, hA6, _, hg6, hg6s, hcl, hfr⟩ := HOj.out.at_ j (by omega)
            obtain rfl := hA6
            generalize zs.getD j 0 = z at *
            have HZS := Lib.hid hzs
            clear hzs
            go_wp2
            go_roundw
            case rel =>
              have ho := HOj.out
              rw [← HZS.out] at ho
              have h2 := Own.put ho HWj.out j ((z + 1) % 256)
              rw [HZS.out] at h2
              exact ⟨j + 1, zs.set j ((z + 1) % 256), by go_num, by omega, by rw [List.length_set]; exact HZS.out, Aside0.mk h2.2, Aside0.mk h2.1, Aside0.mk (HBj.out.setCell (by have := HLO.out; show w.heap.size ≤ g6; omega) _)⟩
            case measure => simp [intOf]; omega
          · obtain rfl : j = f5.length := by omega
            have hjl' : ¬ (((f5.length : Nat) : Int) < ((f5.length : Nat) : Int)) := by omega
            have hys : ys.length ≤ 140737488355328 := by have := HLd.out; have := HLXS.out; omega
            have HYS := Lib.hid hys
            go_wp2_with (go_at_call 26; (with_reducible refine (TAll_any _ w.heap.size w.heap.size vt2 ys HWj.out.tape HYS.out).mono ?_); rintro e w6 ⟨v9, rfl, ho9, hb9⟩; have HW6 := Lib.hid (HWj.out.below hb9); have HB6 := Lib.hid (below_then HBj.out (bsz HSZ.out HBj.out) hb9); have HO9 := Lib.hid (Own.made HWj.out ho9); obtain ⟨A9, c9, rfl⟩ := own_slice ho9; have hcv3 := string_read (c := c9) (row_C ho9).2.2; obtain ⟨A4, c4, rfl⟩ := own_slice HW6.out.want; have hcv4 := string_read (c := c4) (row_C HW6.out.want).2.2; clear ho9 hb9)
            have hb := bsz HSZ.out HBj.out
            obtain ⟨lo9, hlo9⟩ : ∃ lo9, wr.heap.size = lo9 := ⟨_, rfl⟩
            rw [hlo9] at HO9 hb
            have HLO9 := Lib.hid hb
            clear hb hlo9 hcv3 hcv4 hjl' HWj HOj HBj hzs hj hjl
            go_loopw [162] (fun i W => ∃ (j : Nat) (zs : List Int), i = .int .i64 j ∧ j ≤ ys.length ∧ zs.length = ys.length ∧ Aside0 (WAt W w.heap.size w.heap.size vt2 (.slice A4 ys.length c4) ys) ∧ Aside0 (Own W w.heap.size lo9 vt2 (.slice A4 ys.length c4) (.slice A9 ys.length c9) zs) ∧ Aside0 (Below w.heap.size w1 W)) (fun i _ => ys.length - (intOf i).toNat)
            case atStart => exact ⟨0, _, rfl, Nat.zero_le _, rfl, Aside0.mk HW6.out, Aside0.mk HO9.out, Aside0.mk HB6.out⟩
            case round =>
              obtain ⟨j, zs, rfl, hj, hzs, HWj, HOj, HBj⟩ := hrel
              by_cases hjl : j < ys.length
              · have hjl' : ((j : Int) < ((ys.length : Nat) : Int)) := by omega
                obtain ⟨g6, hA6, _, hg6, hg6s, hcl, hfr⟩ := HOj.out.at_ j (by omega)
                obtain rfl := hA6
                generalize zs.getD j 0 = z at *
                have HZS := Lib.hid hzs
                clear hzs
                go_wp2
                go_roundw
                case rel =>
                  have ho : Own wr w.heap.size lo9 vt2 (.slice A4 ys.length c4) (.slice (some ⟨g6, 0, none⟩) zs.length c9) zs := by rw [HZS.out]; exact HOj.out
                  have h2 := Own.put ho HWj.out j ((z + 1) % 256)
                  rw [HZS.out] at h2
                  exact ⟨j + 1, zs.set j ((z + 1) % 256), by go_num, by omega, by rw [List.length_set]; exact HZS.out, Aside0.mk h2.2, Aside0.mk h2.1, Aside0.mk (HBj.out.setCell (by have := HLO9.out; show w.heap.size ≤ g6; omega) _)⟩
                case measure => exact (show ys.length - ((j : Int) + 1).toNat < ys.length - (j : Int).toNat by omega)
              · obtain rfl : j = ys.length := by omega
                have hjl' : ¬ (((ys.length : Nat) : Int) < ((ys.length : Nat) : Int)) := by omega
                go_wp2
                refine ⟨⟨k + 1, vt2, _, ys, by go_num, rfl, by omega, Aside0.mk HWj.out, Aside0.mk HBj.out, Aside0.mk ?_⟩, ?_⟩
                · have h1 := HL.out
                  have h2 := HDS.out
                  have h3 := HLd.out
                  omega
                · show ops.length - ((k : Int) + 1).toNat < ops.length - (k : Int).toNat
                  omega
      · obtain rfl : k = ops.length := by omega
        have hys : xs.length ≤ 140737488355328 := by have := HL.out; omega
        have HYS := Lib.hid hys
        clear hys
        go_wp2
        have HWe := Lib.hid (HW.out.below (below_drew (Below.refl _ _)))
        have HBe := Lib.hid (below_drew HB.out)
        obtain ⟨A4, c4, rfl⟩ := own_slice HWe.out.want
        have hcvA := string_read (c := c4) (row_C HWe.out.want).2.2
        clear HW HB
        go_region_with (go_at_call 26; (with_reducible refine (TAll_any _ w.heap.size w.heap.size vt xs HWe.out.tape HYS.out).mono ?_); rintro e w6 ⟨v9, rfl, ho9, hb9⟩; have HW6 := Lib.hid (HWe.out.below hb9); have HB6 := Lib.hid (below_then HBe.out (bsz HSZ.out HBe.out) hb9); obtain ⟨A9, c9, rfl⟩ := own_slice ho9; have hcv3 := string_read (c := c9) (row_C ho9).2.2; have hcv4 := string_read (c := c4) (row_C HW6.out.want).2.2; clear ho9 hb9)
        all_goals (go_wp2; go_ret; exact ⟨rfl, below_step hB1.out (HSZ.out.symm ▸ HB6.out)⟩)
end Go.Proofs.Ytpiainanlmpieaa
