/- VaryNames' walk. -/
import Derived.Test.YtpiainanlmpieaaVx
import Derived.Test.YtpiainanlmpieaaLawOrder
import Derived.Lib.SlBytesConst
import Derived.Deep.DeepCutAuto
import Derived.Deep.CutBlock
namespace Go.Proofs.Ytpiainanlmpieaa
open Go.RowKit Go.Shelf Go.Proofs.YtpiainanlmpieaaW.PrintWords Go.Proofs.YtpiainanlmpieaaW.PrintLast Go.Proofs.YtpiainanlmpieaaW.PrintMore

def seven (b : Int) : List Int := [b, b, b, b, b, b, b]
theorem rep_ff : (⟨(Lib.repeatL (ByteArray.mk #[255]).data.toList 7).toArray⟩ : ByteArray) = ⟨#[255, 255, 255, 255, 255, 255, 255]⟩ := by rfl
theorem rep_00 : (⟨(Lib.repeatL (ByteArray.mk #[0]).data.toList 7).toArray⟩ : ByteArray) = ⟨#[0, 0, 0, 0, 0, 0, 0]⟩ := by rfl

theorem repeat7 (b : UInt8) (w : World) : Calls Try.prog 40 #[.string ⟨#[b]⟩, .int .i64 7] w fun e w' => e = .returned (.string ⟨#[b, b, b, b, b, b, b]⟩) ∧ Below w.heap.size w w' :=
  (Try.strings_Repeat ⟨#[b]⟩ 7 w (by omega) (by show 1 * 7 ≤ _; omega))

theorem Width_int' (a : Int) (h0 : 0 ≤ a) (h1 : a ≤ 18446744073709551615) (w : World) :
    Calls Try.prog 13 #[.int .u64 a] w fun e w' => e = .returned (.int .i64 (VP.wid a.toNat)) ∧ w = w' := by
  obtain ⟨n, rfl⟩ := Int.eq_ofNat_of_zero_le h0
  exact Width_any n (by omega) w
theorem wid_pows : ∀ k : Fin 64, (VP.wid (2 ^ k.val) : Int) = min 9 ((k.val : Int) / 7 + 1) ∧ (VP.wid (2 ^ k.val - 1) : Int) = min 9 (max 1 (((k.val : Int) + 6) / 7)) := by decide +kernel
theorem signs6 : ∀ k : Fin 6, -9223372036854775808 ≤ ([0, -1, 1, -2, 2, -3] : List Int).getD k.val 0 ∧ ([0, -1, 1, -2, 2, -3] : List Int).getD k.val 0 ≤ 9223372036854775807 ∧ Lib.zigzag (([0, -1, 1, -2, 2, -3] : List Int).getD k.val 0) = k.val ∧ zag k.val = ([0, -1, 1, -2, 2, -3] : List Int).getD k.val 0 := by decide +kernel
theorem signs_cell (w : World) (k : Fin 6) : (w.alloc (.cells #[.int .i64 0, .int .i64 (-1), .int .i64 1, .int .i64 (-2), .int .i64 2, .int .i64 (-3)] 2)).cell? ⟨w.heap.size, k.val, none⟩ = some (.int .i64 (([0, -1, 1, -2, 2, -3] : List Int).getD k.val 0)) := by
  have h := blk_cell (World.alloc_heap_new w (.cells #[.int .i64 0, .int .i64 (-1), .int .i64 1, .int .i64 (-2), .int .i64 2, .int .i64 (-3)] 2)) k.val
  rw [h]
  obtain ⟨k, hk⟩ := k
  match k, hk with
  | 0, _ => rfl
  | 1, _ => rfl
  | 2, _ => rfl
  | 3, _ => rfl
  | 4, _ => rfl
  | 5, _ => rfl
theorem lit_C (w : World) (bs : List Int) (C : Array Value) (z : Nat × Nat) (hC : C.toList = nums .u8 bs) (hs : bs.length ≤ 140737488355328) : (Kd.int .u8).C (w.alloc (.cells C 5 z)) (some ⟨w.heap.size, 0, none⟩) bs.length bs := by
  refine ⟨rfl, by omega, fun _ => ⟨_, rfl, fun i x hx => ⟨[.int .u8 x], rfl, rfl, fun j u hu => ?_⟩⟩⟩
  cases j with
  | zero =>
    simp only [List.getElem?_cons_zero, Option.some.injEq] at hu
    subst hu
    have e2 : Addr.add ⟨w.heap.size, 0, none⟩ (i * 1 + 0) = ⟨w.heap.size, i, none⟩ := by
      unfold Addr.add
      split
      · rename_i h0; simp at h0; simp
      · simp
    show (w.alloc (.cells C 5 z)).cell? (Addr.add ⟨w.heap.size, 0, none⟩ (i * 1 + 0)) = _
    rw [e2]
    unfold World.cell?
    rw [World.alloc_heap_new]
    simp only [Option.isSome_none, Bool.false_eq_true, if_false]
    rw [← Array.getElem?_toList, hC]
    simp [nums, hx]
  | succ j => simp at hu
theorem keep_row {W W' : World} {g lo n : Nat} {u : Value} {xs : List Value} (h : W.ownsRow lo 5 1 u n xs) (hF : Fr (fun i => i = g) W W') (hg : g < lo) : W'.ownsRow lo 5 1 u n xs :=
  own_fr h hF (fun b hb e => by have := (World.ownsRow.lt h b hb).1; omega)
theorem below_reel {b g : Nat} {w w1 w2 : World} (h : Below b w w1) (hs : b ≤ w1.heap.size) (hF : Fr (fun i => i = g) w1 w2) (hg : b ≤ g) : Below b w w2 :=
  h.trans (hF.below hs (fun i hi e => by omega))
theorem pow_bd : ∀ k : Fin 64, 1 ≤ 2 ^ k.val ∧ 2 ^ k.val < 18446744073709551616 := by decide +kernel

theorem nil_same (W : World) : (binOp .eql 39 (.pointer none) (.pointer none)).run Try.prog W = .ok (.bool true) W := by kernel_rfl
attribute [local go_sem] nil_same

set_option maxRecDepth 100000 in
set_option maxHeartbeats 4000000 in
theorem names_walk (w : World) : Calls Try.prog 9 #[] w fun e w' => e = .returned (.bool true) ∧ Below w.heap.size w w' := by
  go_enter Try.func9, Try.ntmps9
  go_upto_region 2 with (go_at_call 40; refine (repeat7 _ _).mono ?_; rintro e w1 ⟨rfl, hb1⟩)
  have HB1 := Lib.hid hb1
  clear hb1
  go_cut [2] (fun s2 W => s2 = .bool true ∧ Aside0 (Below w.heap.size w W))
  case first =>
    as_aux_lemma =>
      have n1 : (numStr 18446744073709551615).toList = [255, 255, 255, 255, 255, 255, 255, 255, 255] := by decide +kernel
      have n2 : (numStr 72057594037927935).toList = [254, 255, 255, 255, 255, 255, 255, 255] := by decide +kernel
      have n3 : (numStr 72057594037927936).toList = [255, 1, 0, 0, 0, 0, 0, 0, 0] := by decide +kernel
      have c1 : (ByteArray.mk #[255, 255] ++ ByteArray.mk #[255, 255, 255, 255, 255, 255, 255]).toList = [255, 255, 255, 255, 255, 255, 255, 255, 255] := by decide +kernel
      have c2 : (ByteArray.mk #[254] ++ ByteArray.mk #[255, 255, 255, 255, 255, 255, 255]).toList = [254, 255, 255, 255, 255, 255, 255, 255] := by decide +kernel
      have c3 : (ByteArray.mk #[255, 1] ++ ByteArray.mk #[0, 0, 0, 0, 0, 0, 0]).toList = [255, 1, 0, 0, 0, 0, 0, 0, 0] := by decide +kernel
      go_wp2_with fail
      refine (number_any 18446744073709551615 (by omega) (by omega) _).mono ?_
      rintro e w2 ⟨rfl, hb⟩
      have HB2 := Lib.hid (below_then HB1.out HB1.out.size hb)
      clear hb
      go_wp2_with fail
      refine (number_any 72057594037927935 (by omega) (by omega) _).mono ?_
      rintro e w3 ⟨rfl, hb⟩
      have HB3 := Lib.hid (below_then HB2.out HB2.out.size hb)
      clear hb
      go_wp2_with fail
      refine (number_any 72057594037927936 (by omega) (by omega) _).mono ?_
      rintro e w4 ⟨rfl, hb⟩
      have HB4 := Lib.hid (below_then HB3.out HB3.out.size hb)
      clear hb
      go_wp2_with fail
      refine (repeat7 0 _).mono ?_
      rintro e w5 ⟨rfl, hb⟩
      have HB5 := Lib.hid (below_then HB4.out HB4.out.size hb)
      clear hb
      go_wp2_with fail
      refine (reads_true _ 99 0 12 0 12 (by decide) rfl (by omega) rfl (by decide +kernel) _).mono ?_
      rintro e w6 ⟨rfl, hb⟩
      have HB6 := Lib.hid (below_then HB5.out HB5.out.size hb)
      clear hb
      go_wp2_with fail
      refine (reads_true _ 99 99 0 99 0 (by decide) rfl (by omega) rfl (by decide +kernel) _).mono ?_
      rintro e w7 ⟨rfl, hb⟩
      have HB7 := Lib.hid (below_then HB6.out HB6.out.size hb)
      clear hb
      go_wp2_with fail
      refine (reads_true _ 18446744073709551615 0 11 0 11 (by decide) rfl (by omega) rfl (by decide +kernel) _).mono ?_
      rintro e w8 ⟨rfl, hb⟩
      have HB8 := Lib.hid (below_then HB7.out HB7.out.size hb)
      clear hb
      go_wp2_with fail
      refine (reads_true _ 18446744073709551615 0 10 0 10 (by decide) rfl (by omega) rfl (by decide +kernel) _).mono ?_
      rintro e w9 ⟨rfl, hb⟩
      have HB9 := Lib.hid (below_then HB8.out HB8.out.size hb)
      clear hb
      go_wp2_with fail
      refine (reads_true _ 18446744073709551615 0 10 0 10 (by decide) rfl (by omega) rfl (by decide +kernel) _).mono ?_
      rintro e w10 ⟨rfl, hb⟩
      have HB10 := Lib.hid (below_then HB9.out HB9.out.size hb)
      clear hb
      go_wp2_with fail
      refine (reads_true _ 18446744073709551615 18446744073709551615 0 18446744073709551615 0 (by decide) rfl (by omega) rfl (by decide +kernel) _).mono ?_
      rintro e w11 ⟨rfl, hb⟩
      have HB11 := Lib.hid (below_then HB10.out HB10.out.size hb)
      clear hb
      go_wp2_with fail
      refine (reads_true _ 18446744073709551614 0 12 0 12 (by decide) rfl (by omega) rfl (by decide +kernel) _).mono ?_
      rintro e w12 ⟨rfl, hb⟩
      have HB12 := Lib.hid (below_then HB11.out HB11.out.size hb)
      clear hb
      go_wp2_with fail
      refine (reads_true _ 18446744073709551615 0 11 0 11 (by decide) rfl (by omega) rfl (by decide +kernel) _).mono ?_
      rintro e w13 ⟨rfl, hb⟩
      have HB13 := Lib.hid (below_then HB12.out HB12.out.size hb)
      clear hb
      go_wp2_with fail
      refine (reads_true _ 18446744073709551615 0 10 0 10 (by decide) rfl (by omega) rfl (by decide +kernel) _).mono ?_
      rintro e w14 ⟨rfl, hb⟩
      have HB14 := Lib.hid (below_then HB13.out HB13.out.size hb)
      clear hb
      go_wp2_with fail
      refine (reads_true _ 18446744073709551615 72057594037927935 0 72057594037927935 0 (by decide) rfl (by omega) rfl (by decide +kernel) _).mono ?_
      rintro e w15 ⟨rfl, hb⟩
      have HB15 := Lib.hid (below_then HB14.out HB14.out.size hb)
      clear hb
      go_wp2
      go_meet
      exact ⟨rfl, Aside0.mk HB15.out⟩
  case rest =>
    obtain ⟨rfl, HB⟩ := hcut
    clear HB1
    have HB := Lib.hid HB.out
    go_upto_block 0 with fail
    go_cut [3] (fun s3 W => s3 = .bool true ∧ Aside0 (Below w.heap.size w W))
    case first =>
      as_aux_lemma =>
        go_wp2
        go_loopw [4, 3] (fun i b W => ∃ k : Nat, i = .int .i64 k ∧ k ≤ 64 ∧ b = .bool true ∧ Aside0 (Below w.heap.size w W)) (fun i _ _ => 64 - (intOf i).toNat)
        case atStart => exact ⟨0, rfl, by omega, rfl, Aside0.mk HB.out⟩
        case round =>
          clear HB
          obtain ⟨k, rfl, hk, rfl, HB⟩ := hrel
          by_cases hlt : k < 64
          · obtain ⟨n, hn⟩ : ∃ n : Nat, n = 2 ^ k := ⟨_, rfl⟩
            obtain ⟨p1, p2⟩ := pow_bd ⟨k, hlt⟩
            obtain ⟨q1, q2⟩ := wid_pows ⟨k, hlt⟩
            simp only [← hn] at p1 p2 q1 q2
            have hw : IntKind.u64.wrap ((2 : Int) ^ k) = (n : Int) := by
              have e : ((2 : Int) ^ k) = (n : Int) := by rw [hn]; simp
              rw [e, IntKind.wrap_u64]; omega
            have hs := numStr_size (n : Int)
            rw [Int.toNat_natCast] at hs
            have hk64 : ((k : Int) < 64) := by omega
            have hn1 : ((n : Int) - 1).toNat = n - 1 := by omega
            have Q1 := Lib.hid q1
            have Q2 := Lib.hid q2
            have HS := Lib.hid hs
            have N1 := Lib.hid hn1
            clear hn q1 q2 hs hn1
            go_wp2_with fail
            refine (Width_int' _ (by omega) (by omega) _).mono ?_
            rintro e w3 ⟨rfl, rfl⟩
            rw [Int.toNat_natCast, Q1.out]
            go_wp2_with fail
            refine (Width_int' _ (by omega) (by omega) _).mono ?_
            rintro e w3 ⟨rfl, rfl⟩
            rw [N1.out, Q2.out]
            go_wp2_with fail
            refine (number_any _ (by omega) (by omega) _).mono ?_
            rintro e w4 ⟨rfl, hb4⟩
            have HB4 := Lib.hid (below_then HB.out HB.out.size hb4)
            have hs := HS.out
            go_wp2_with fail
            refine (Width_int' _ (by omega) (by omega) _).mono ?_
            rintro e w3 ⟨rfl, rfl⟩
            rw [Int.toNat_natCast]
            go_wp2
            refine ⟨⟨k + 1, by go_num, by omega, rfl, Aside0.mk HB4.out⟩, ?_⟩
            show 64 - ((k : Int) + 1).toNat < 64 - (k : Int).toNat
            omega
          · obtain rfl : k = 64 := by omega
            go_wp2
            go_meet
            exact ⟨rfl, HB⟩
    case rest =>
      clear HB
      obtain ⟨rfl, HB⟩ := hcut
      have HB := Lib.hid HB.out
      go_upto_block 2 with fail
      go_cut [6] (fun s6 W => s6 = .bool true ∧ Aside0 (Below w.heap.size w W))
      case first =>
        as_aux_lemma =>
          go_wp2_with fail
          go_loop [142, 6] (fun i b => ∃ k : Nat, i = .int .i64 k ∧ k ≤ 6 ∧ b = .bool true) (fun i _ => 6 - (intOf i).toNat)
          case atStart => exact ⟨0, rfl, by omega, rfl⟩
          case round =>
            obtain ⟨k, rfl, hk, rfl⟩ := hrel
            by_cases hlt : k < 6
            · obtain ⟨x, hx⟩ : ∃ x : Int, x = [0, -1, 1, -2, 2, -3].getD k 0 := ⟨_, rfl⟩
              obtain ⟨s1, s2, s3, s4⟩ := signs6 ⟨k, hlt⟩
              simp only [← hx] at s1 s2 s3 s4
              have hc := signs_cell wc ⟨k, hlt⟩
              simp only [← hx] at hc
              have hk6 : (k : Int) < 6 := by omega
              have S3 := Lib.hid s3
              have S4 := Lib.hid s4
              clear hx s3 s4
              go_wp2_with fail
              refine (Zig_any x s1 s2 _).mono ?_
              rintro e w3 ⟨rfl, rfl⟩
              rw [S3.out]
              go_wp2_with fail
              refine (Zag_any k (by omega) _).mono ?_
              rintro e w3 ⟨rfl, rfl⟩
              rw [S4.out]
              go_wp2
              go_round
              case rel => exact ⟨k + 1, by go_num, by omega, rfl⟩
              case measure => simp [intOf]; omega
            · obtain rfl : k = 6 := by omega
              go_wp2
              go_meet
              exact ⟨rfl, Aside0.mk (below_then HB.out HB.out.size (below_alloc (Below.refl _ _) _))⟩
      case rest =>
        clear HB
        obtain ⟨rfl, HB⟩ := hcut
        have HB := Lib.hid HB.out
        go_upto_region 15 with (fail)
        go_cut [6] (fun s6 W => s6 = .bool true ∧ Aside0 (Below w.heap.size w W))
        case first =>
          as_aux_lemma =>
            have z1 : Lib.zigzag (-9223372036854775808) = 18446744073709551615 := by decide +kernel
            have z2 : Lib.zigzag 9223372036854775807 = 18446744073709551614 := by decide +kernel
            have z3 : zag 18446744073709551615 = -9223372036854775808 := by decide +kernel
            go_wp2_with fail
            refine (Zig_any _ (by omega) (by omega) _).mono ?_
            rintro e w3 ⟨rfl, rfl⟩
            rw [z1]
            go_wp2_with fail
            refine (Zag_any 18446744073709551615 (by omega) _).mono ?_
            rintro e w3 ⟨rfl, rfl⟩
            rw [z3]
            go_wp2_with fail
            refine (Zig_any _ (by omega) (by omega) _).mono ?_
            rintro e w3 ⟨rfl, rfl⟩
            rw [z2]
            go_wp2
            go_meet
            exact ⟨rfl, Aside0.mk HB.out⟩
        case rest =>
          clear HB
          obtain ⟨rfl, HB⟩ := hcut
          have HB := Lib.hid HB.out
          have kc := Lib.run_convert_bytes_const (P := Try.prog) wc 30 5 #[.int .u8 3, .int .u8 2, .int .u8 97, .int .u8 98, .int .u8 99] 5 5 Try.underlying30 Try.underlying5
          have HC0 := Lib.hid (lit_C wc [3, 2, 97, 98, 99] #[.int .u8 3, .int .u8 2, .int .u8 97, .int .u8 98, .int .u8 99] (5, 5 + 1) rfl (by decide))
          go_wp2_with fail
          refine (On_any _ _ [3, 2, 97, 98, 99] _ HC0.out (by decide) (by decide)).mono ?_
          rintro e x0 ⟨g, rv, rfl, hg, hR, hb⟩
          have hsz : w.heap.size ≤ wc.heap.size := HB.out.size
          have HG := Lib.hid (show w.heap.size ≤ g from Nat.le_trans (Nat.le_trans hsz (by simp)) hg)
          have HB0 := Lib.hid (below_then HB.out hsz ((below_alloc (Below.refl _ _) _).trans (hb.mono (by simp))))
          have HR0 := Lib.hid hR
          clear hg hR hb kc hsz
          have hv : readS (rest [3, 2, 97, 98, 99] 0) (-2) (2) = (-2, 0, 1) := by decide +kernel
          have hS := RSigned_any x0 g _ rv [3, 2, 97, 98, 99] 0 (-2) (2) HR0.out
          rw [hv] at hS
          simp only at hS
          have HS := Lib.hid hS
          clear hS hv
          go_wp2_with fail
          refine HS.out.mono ?_
          rintro e x1 ⟨rfl, hR, hF⟩
          have HR1 := Lib.hid hR
          have HB1 := Lib.hid (below_reel HB0.out HB0.out.size hF HG.out)
          clear hR hF HS
          have hv : readS (rest [3, 2, 97, 98, 99] 1) (2) (9) = (0, 12, 0) := by decide +kernel
          have hS := RSigned_any x1 g _ rv [3, 2, 97, 98, 99] 1 (2) (9) HR1.out
          rw [hv] at hS
          simp only at hS
          have HS := Lib.hid hS
          clear hS hv
          go_wp2_with fail
          refine HS.out.mono ?_
          rintro e x2 ⟨rfl, hR, hF⟩
          have HR2 := Lib.hid hR
          have HB2 := Lib.hid (below_reel HB1.out HB1.out.size hF HG.out)
          clear hR hF HS
          have hv : readB [3, 2, 97, 98, 99] 1 (2) = ([97, 98], 0, 3) := by decide +kernel
          have hS := RBytes_any x2 g _ rv [3, 2, 97, 98, 99] 1 (2) HR2.out (by omega) (by omega)
          rw [hv] at hS
          simp only at hS
          have HS := Lib.hid hS
          clear hS hv
          go_wp2_with fail
          refine HS.out.mono ?_
          rintro e x3 ⟨u3, rfl, ho, hR, hF⟩
          obtain ⟨A3, c3, rfl⟩ := own_slice ho
          have HO3 := Lib.hid ho
          have hlo3 : g < x2.heap.size := blk_lt HR2.out.blk
          have HLO3 := Lib.hid hlo3
          clear ho hlo3
          have HR3 := Lib.hid hR
          have HB3 := Lib.hid (below_reel HB2.out HB2.out.size hF HG.out)
          clear hR hF HS
          go_wp2_with fail
          refine (At_any _ g _ rv [3, 2, 97, 98, 99] 4 HR3.out).mono ?_
          rintro e y1 ⟨rfl, rfl⟩
          go_wp2_with fail
          refine (End_drawn _ g _ rv [3, 2, 97, 98, 99] 4 HR3.out).mono ?_
          rintro e y2 ⟨rfl, m2, rfl⟩
          rw [if_pos (by decide : 4 < ([3, 2, 97, 98, 99] : List Int).length)]
          have HR4 := Lib.hid (HR3.out.below (pw_below_drewN (Below.refl _ _) m2))
          have HB4 := Lib.hid (pw_below_drewN HB3.out m2)
          have HO3 := Lib.hid (pw_own_below HO3.out (pw_below_drewN (Below.refl _ _) m2))
          generalize x3.drewN m2 = x4 at *
          have hv : readR [3, 2, 97, 98, 99] 4 (2) = ([], 10, 0) := by decide +kernel
          have hS := Raw_any x4 g _ rv [3, 2, 97, 98, 99] 4 (2) HR4.out (by omega) (by omega)
          rw [hv] at hS
          simp only at hS
          have HS := Lib.hid hS
          clear hS hv
          go_wp2_with fail
          refine HS.out.mono ?_
          rintro e x5 ⟨u5, rfl, ho, hR, hF⟩
          obtain ⟨A5, c5, rfl⟩ := own_slice ho
          have HO5 := Lib.hid ho
          have hlo5 : g < x4.heap.size := blk_lt HR4.out.blk
          have HLO5 := Lib.hid hlo5
          clear ho hlo5
          have HO3 := Lib.hid (keep_row HO3.out hF HLO3.out)
          have HR5 := Lib.hid hR
          have HB5 := Lib.hid (below_reel HB4.out HB4.out.size hF HG.out)
          clear hR hF HS
          have hv : readR [3, 2, 97, 98, 99] 4 (-1) = ([], 2, 0) := by decide +kernel
          have hS := Raw_any x5 g _ rv [3, 2, 97, 98, 99] 4 (-1) HR5.out (by omega) (by omega)
          rw [hv] at hS
          simp only at hS
          have HS := Lib.hid hS
          clear hS hv
          go_wp2_with fail
          refine HS.out.mono ?_
          rintro e x6 ⟨u6, rfl, ho, hR, hF⟩
          obtain ⟨A6, c6, rfl⟩ := own_slice ho
          have HO6 := Lib.hid ho
          have hlo6 : g < x5.heap.size := blk_lt HR5.out.blk
          have HLO6 := Lib.hid hlo6
          clear ho hlo6
          have HO3 := Lib.hid (keep_row HO3.out hF HLO3.out)
          have HO5 := Lib.hid (keep_row HO5.out hF HLO5.out)
          have HR6 := Lib.hid hR
          have HB6 := Lib.hid (below_reel HB5.out HB5.out.size hF HG.out)
          clear hR hF HS
          have hv : readR [3, 2, 97, 98, 99] 4 (1) = ([99], 0, 1) := by decide +kernel
          have hS := Raw_any x6 g _ rv [3, 2, 97, 98, 99] 4 (1) HR6.out (by omega) (by omega)
          rw [hv] at hS
          simp only at hS
          have HS := Lib.hid hS
          clear hS hv
          go_wp2_with fail
          refine HS.out.mono ?_
          rintro e x7 ⟨u7, rfl, ho, hR, hF⟩
          obtain ⟨A7, c7, rfl⟩ := own_slice ho
          have HO7 := Lib.hid ho
          have hlo7 : g < x6.heap.size := blk_lt HR6.out.blk
          have HLO7 := Lib.hid hlo7
          clear ho hlo7
          have HO3 := Lib.hid (keep_row HO3.out hF HLO3.out)
          have HO5 := Lib.hid (keep_row HO5.out hF HLO5.out)
          have HO6 := Lib.hid (keep_row HO6.out hF HLO6.out)
          have HR7 := Lib.hid hR
          have HB7 := Lib.hid (below_reel HB6.out HB6.out.size hF HG.out)
          clear hR hF HS
          go_upto_region 24 with (fail)
          go_cut [24] (fun s24 W => s24 = .bool true ∧ Aside0 (Below w.heap.size w W))
          case first =>
            as_aux_lemma =>
              have hcv3 : (convert 30 9 (.slice A3 2 c3)).run Try.prog x7 = .ok (.string (strOfNums [97, 98])) x7 := string_read (row_C HO3.out).2.2
              have hcv7 : (convert 30 9 (.slice A7 1 c7)).run Try.prog x7 = .ok (.string (strOfNums [99])) x7 := string_read (row_C HO7.out).2.2
              have t3 : (strOfNums [97, 98]).toList = [97, 98] := by decide +kernel
              have t7 : (strOfNums [99]).toList = [99] := by decide +kernel
              go_wp2_with fail
              refine (End_drawn _ g _ rv [3, 2, 97, 98, 99] 5 HR7.out).mono ?_
              rintro e y2 ⟨rfl, m2, rfl⟩
              rw [if_neg (by decide : ¬ 5 < ([3, 2, 97, 98, 99] : List Int).length)]
              go_wp2
              go_meet
              exact ⟨rfl, Aside0.mk (pw_below_drewN HB7.out m2)⟩
          case rest =>
            as_aux_lemma =>
              clear HB0 HB1 HB2 HB3 HB4 HB5 HB6 HB7 HR0 HR1 HR2 HR3 HR4 HR5 HR6 HR7 HO3 HO5 HO6 HO7 HLO3 HLO5 HLO6 HLO7 HC0 HG HB
              obtain ⟨rfl, HB⟩ := hcut
              have HB := Lib.hid HB.out
              have kc := Lib.run_convert_bytes_const (P := Try.prog) wc 30 5 #[.int .u8 3, .int .u8 97, .int .u8 98] 3 3 Try.underlying30 Try.underlying5
              have HC0 := Lib.hid (lit_C wc [3, 97, 98] #[.int .u8 3, .int .u8 97, .int .u8 98] (3, 3 + 1) rfl (by decide))
              go_wp2_with fail
              refine (On_any _ _ [3, 97, 98] _ HC0.out (by decide) (by decide)).mono ?_
              rintro e x0 ⟨g, rv, rfl, hg, hR, hb⟩
              have hsz : w.heap.size ≤ wc.heap.size := HB.out.size
              have HG := Lib.hid (show w.heap.size ≤ g from Nat.le_trans (Nat.le_trans hsz (by simp)) hg)
              have HB0 := Lib.hid (below_then HB.out hsz ((below_alloc (Below.refl _ _) _).trans (hb.mono (by simp))))
              have HR0 := Lib.hid hR
              clear hg hR hb kc hsz
              have hv : readB [3, 97, 98] 0 (9) = ([], 10, 0) := by decide +kernel
              have hS := RBytes_any x0 g _ rv [3, 97, 98] 0 (9) HR0.out (by omega) (by omega)
              rw [hv] at hS
              simp only at hS
              have HS := Lib.hid hS
              clear hS hv
              go_wp2_with fail
              refine HS.out.mono ?_
              rintro e x1 ⟨u1, rfl, ho, hR, hF⟩
              obtain ⟨A1, c1, rfl⟩ := own_slice ho
              have HO1 := Lib.hid ho
              have hlo1 : g < x0.heap.size := blk_lt HR0.out.blk
              have HLO1 := Lib.hid hlo1
              clear ho hlo1
              have HR1 := Lib.hid hR
              have HB1 := Lib.hid (below_reel HB0.out HB0.out.size hF HG.out)
              clear hR hF HS
              have hv : readB [3, 97, 98] 0 (2) = ([], 12, 0) := by decide +kernel
              have hS := RBytes_any x1 g _ rv [3, 97, 98] 0 (2) HR1.out (by omega) (by omega)
              rw [hv] at hS
              simp only at hS
              have HS := Lib.hid hS
              clear hS hv
              go_wp2_with fail
              refine HS.out.mono ?_
              rintro e x2 ⟨u2, rfl, ho, hR, hF⟩
              obtain ⟨A2, c2, rfl⟩ := own_slice ho
              have HO2 := Lib.hid ho
              have hlo2 : g < x1.heap.size := blk_lt HR1.out.blk
              have HLO2 := Lib.hid hlo2
              clear ho hlo2
              have HO1 := Lib.hid (keep_row HO1.out hF HLO1.out)
              have HR2 := Lib.hid hR
              have HB2 := Lib.hid (below_reel HB1.out HB1.out.size hF HG.out)
              clear hR hF HS
              have hv : readB [3, 97, 98] 0 (-1) = ([], 12, 0) := by decide +kernel
              have hS := RBytes_any x2 g _ rv [3, 97, 98] 0 (-1) HR2.out (by omega) (by omega)
              rw [hv] at hS
              simp only at hS
              have HS := Lib.hid hS
              clear hS hv
              go_wp2_with fail
              refine HS.out.mono ?_
              rintro e x3 ⟨u3, rfl, ho, hR, hF⟩
              obtain ⟨A3, c3, rfl⟩ := own_slice ho
              have HO3 := Lib.hid ho
              have hlo3 : g < x2.heap.size := blk_lt HR2.out.blk
              have HLO3 := Lib.hid hlo3
              clear ho hlo3
              have HO1 := Lib.hid (keep_row HO1.out hF HLO1.out)
              have HO2 := Lib.hid (keep_row HO2.out hF HLO2.out)
              have HR3 := Lib.hid hR
              have HB3 := Lib.hid (below_reel HB2.out HB2.out.size hF HG.out)
              clear hR hF HS
              go_upto_region 29 with (fail)
              go_cut [32] (fun s32 W => s32 = .bool true ∧ Aside0 (Below w.heap.size w W))
              case first =>
                as_aux_lemma =>
                  go_wp2_with fail
                  refine (At_any _ g _ rv [3, 97, 98] 0 HR3.out).mono ?_
                  rintro e y1 ⟨rfl, rfl⟩
                  go_wp2
                  go_meet
                  exact ⟨rfl, Aside0.mk HB3.out⟩
              case rest =>
                as_aux_lemma =>
                  clear HB0 HB1 HB2 HB3 HR0 HR1 HR2 HR3 HO1 HO2 HO3 HLO1 HLO2 HLO3 HC0 HG HB
                  obtain ⟨rfl, HB⟩ := hcut
                  have HB := Lib.hid HB.out
                  have HRz : Hid (ReelIs (wc.alloc (.cells #[.slice none 0 0, .int .i64 0] 75)) wc.heap.size 0 (.slice none 0 0) [] 0) := Lib.hid ⟨World.alloc_heap_new _ _, World.ownsRow_nil _ _ _ _, Nat.le_refl _, by decide, fun b hb => by cases hb⟩
                  have HBz : Hid (Below w.heap.size w (wc.alloc (.cells #[.slice none 0 0, .int .i64 0] 75))) := Lib.hid (below_then HB.out HB.out.size (below_alloc (Below.refl _ _) _))
                  have HZ := Lib.hid HB.out.size
                  go_wp2_with fail
                  refine (RNumber_nil 1 _).mono ?_
                  rintro e y1 ⟨rfl, hb⟩
                  have HB1 := Lib.hid (below_then HBz.out HBz.out.size hb)
                  have HR1 := Lib.hid (HRz.out.below hb)
                  clear hb
                  go_wp2_with fail
                  refine (RBytes_nil 1 _).mono ?_
                  rintro e y2 ⟨rfl, hb⟩
                  have HB2 := Lib.hid (below_then HB1.out HB1.out.size hb)
                  have HR2 := Lib.hid (HR1.out.below hb)
                  clear hb
                  go_wp2_with fail
                  refine (Raw_nil 0 _).mono ?_
                  rintro e y ⟨rfl, rfl⟩
                  go_wp2_with fail
                  refine (RSigned_nil 0 1 _).mono ?_
                  rintro e y3 ⟨rfl, hb⟩
                  have HB3 := Lib.hid (below_then HB2.out HB2.out.size hb)
                  have HR3 := Lib.hid (HR2.out.below hb)
                  clear hb
                  have hv : readN (rest [] 0) 1 = (0, 10, 0) := by decide +kernel
                  have hS := RNumber_any y3 wc.heap.size _ _ [] 0 1 HR3.out
                  rw [hv] at hS
                  simp only at hS
                  have HS := Lib.hid hS
                  clear hS hv
                  go_wp2_with fail
                  refine HS.out.mono ?_
                  rintro e y4 ⟨rfl, hR, hF⟩
                  have HR4 := Lib.hid hR
                  have HB4 := Lib.hid (below_reel HB3.out HB3.out.size hF HZ.out)
                  clear hR hF HS
                  go_wp2_with fail
                  refine (alive_any _).mono ?_
                  rintro e y5 ⟨rfl, hb⟩
                  have HB5 := Lib.hid (below_then HB4.out HB4.out.size hb)
                  have HR5 := Lib.hid (HR4.out.below hb)
                  clear hb
                  go_wp2_with fail
                  refine (TNumber_nil 1 _).mono ?_
                  rintro e y6 ⟨rfl, hb⟩
                  have HB6 := Lib.hid (below_then HB5.out HB5.out.size hb)
                  have HR6 := Lib.hid (HR5.out.below hb)
                  clear hb
                  go_wp2_with fail
                  refine (TSigned_nil 1 (by omega) (by omega) _).mono ?_
                  rintro e y7 ⟨rfl, hb⟩
                  have HB7 := Lib.hid (below_then HB6.out HB6.out.size hb)
                  have HR7 := Lib.hid (HR6.out.below hb)
                  clear hb
                  go_wp2_with fail
                  refine (TBytes_nil _).mono ?_
                  rintro e y8 ⟨rfl, hb⟩
                  have HB8 := Lib.hid (below_then HB7.out HB7.out.size hb)
                  have HR8 := Lib.hid (HR7.out.below hb)
                  clear hb
                  go_wp2_with fail
                  refine (TAll_nil _).mono ?_
                  rintro e y ⟨rfl, rfl⟩
                  go_wp2_with fail
                  refine (End_nil _).mono ?_
                  rintro e y ⟨rfl, rfl⟩
                  go_wp2_with fail
                  refine (End_drawn _ wc.heap.size _ _ [] 0 HR8.out).mono ?_
                  rintro e y ⟨rfl, m2, rfl⟩
                  rw [if_neg (by decide : ¬ 0 < ([] : List Int).length)]
                  go_wp2_with fail
                  refine (At_nil _).mono ?_
                  rintro e y ⟨rfl, rfl⟩
                  go_wp2
                  go_ret
                  exact ⟨rfl, pw_below_drewN HB8.out m2⟩


end Go.Proofs.Ytpiainanlmpieaa
