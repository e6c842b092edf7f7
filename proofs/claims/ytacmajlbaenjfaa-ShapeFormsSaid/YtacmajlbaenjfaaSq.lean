/- ShapeForms' walk. -/
import Derived.Test.YtacmajlbaenjfaaS3
import Derived.Test.YtacmajlbaenjfaaCa
namespace Go.Proofs.Ytacmajlbaenjfaa
open Go.RowKit Go.Shelf Go.Proofs.YtacmajlbaenjfaaW.PrintWords Go.Proofs.YtacmajlbaenjfaaW.PrintLast Go.Proofs.YtacmajlbaenjfaaW.PrintMore
open Go.Proofs.Ytacmajlbaenjfaa.PRef

theorem quiet_same {P : Program} {f : FuncId} {args : Array Value} {w : World} {n : Nat} {v : Value}
    (h : Calls P f args (w.drewN n) fun e w' => e = .returned v ∧ w.drewN n = w') : Calls P f args (w.drewN n) fun e w'' => e = .returned v ∧ ∃ m, w'' = w.drewN m :=
  h.mono fun _ _ ⟨he, hm⟩ => ⟨he, n, hm.symm⟩
theorem great9 (W : World) (A : Option Addr) (c : Nat) (xs : List Int) (hC : (Kd.int .i64).C W A xs.length xs) (hc : xs.length ≤ c) (r : Int) (hr : r = if 100 < xs.length then 1 else 0) :
    Calls Try.prog 9 #[.slice A xs.length c, .agg #[.slice none 0 0, .slice none 0 0]] W fun e w' => e = .returned (.int .i64 r) ∧ Below W.heap.size W w' := by
  refine backstayref06_Great.calls A c xs none 0 [] none 0 [] r W hC hc (Kd.C_nil _ _) (Nat.le_refl _) (Kd.C_nil _ _) (Nat.le_refl _) ?_
  unfold backstayref06_Great.f
  by_cases h : 100 < xs.length
  · rw [if_pos (by omega), hr, if_pos h]
  · rw [if_neg (by omega), if_neg (by simp), if_neg (by simp), hr, if_neg h]
theorem ints20 (W : World) (A B : Option Addr) (c d : Nat) (xs : List Int) (hC : (Kd.int .i64).C W A xs.length xs) (hc : xs.length ≤ c) (hD : (Kd.int .i64).C W B xs.length xs) (hd : xs.length ≤ d) (hl : xs.length ≤ 1000) :
    Calls Try.prog 20 #[.slice A xs.length c, .slice B xs.length d] W fun e w' => e = .returned (.bool true) ∧ ∃ n, w' = W.drewN n :=
  (backstayref02_Ints.calls 2000 A c xs B d xs true W hC hc hD hd (by rw [ints_f xs xs hl, decide_eq_true rfl])).mono fun _ _ ⟨a, b⟩ => ⟨a, b.out⟩
def chk (xs : List Int) : Int := if shapeOk xs then 0 else 60
theorem check22 (w : World) (A : Option Addr) (c : Nat) (xs : List Int) (hC : (Kd.int .i64).C w A xs.length xs) :
    Calls Try.prog 22 #[.slice A xs.length c] w fun e w' => e = .returned (.int .i64 (chk xs)) ∧ Below w.heap.size w w' := Check_any w A c xs hC
theorem check23 (W : World) (A : Option Addr) (c : Nat) (xs : List Int) (hC : (Kd.int .i64).C W A xs.length xs) (hc : xs.length ≤ c) (hl : xs.length ≤ 1000) :
    Calls Try.prog 23 #[.slice A xs.length c] W fun e w' => e = .returned (.int .i64 (chk xs)) ∧ Below W.heap.size W w' :=
  (backstayref06_Check.calls 2000 A c xs _ W hC hc (check_f xs hl)).mono fun _ _ ⟨a, b⟩ => ⟨a, drawn0_below b⟩
theorem R_own8 {w : World} {base : Nat} {v : Value} {xs : List Int} {ok : Nat → Prop} (h : Kd.R (Kd.int .u8) 5 w base ok v xs) : w.ownsRow base 5 1 v xs.length (nums .u8 xs) := Kd.own_of_R h
theorem R_own64 {w : World} {base : Nat} {v : Value} {xs : List Int} {ok : Nat → Prop} (h : Kd.R (Kd.int .i64) 3 w base ok v xs) : w.ownsRow base 3 1 v xs.length (nums .i64 xs) := Kd.own_of_R h

/-- The rows that the call made, and those that came in. -/
structure Rows3 (W : World) (A A2 A1 A3 : Option Addr) (xs bs : List Int) : Prop where
  s : (Kd.int .i64).C W A xs.length xs
  own : (Kd.int .i64).C W A2 xs.length xs
  b : (Kd.int .u8).C W A1 bs.length bs
  raw : (Kd.int .u8).C W A3 bs.length bs
theorem Rows3.below {W W' : World} {A A2 A1 A3 : Option Addr} {xs bs : List Int} (h : Rows3 W A A2 A1 A3 xs bs) (hb : Below W.heap.size W W') : Rows3 W' A A2 A1 A3 xs bs :=
  ⟨Kd.C_below h.s hb, Kd.C_below h.own hb, Kd.C_below h.b hb, Kd.C_below h.raw hb⟩
/-- Bytes that were made, twice. -/
structure Two8 (W : World) (A B : Option Addr) (zs : List Int) : Prop where
  a : (Kd.int .u8).C W A zs.length zs
  b : (Kd.int .u8).C W B zs.length zs
structure Two64 (W : World) (A B : Option Addr) (zs : List Int) : Prop where
  a : (Kd.int .i64).C W A zs.length zs
  b : (Kd.int .i64).C W B zs.length zs
theorem Two8.below {W W' : World} {A B : Option Addr} {zs : List Int} (h : Two8 W A B zs) (hb : Below W.heap.size W W') : Two8 W' A B zs := ⟨Kd.C_below h.a hb, Kd.C_below h.b hb⟩
theorem Two64.below {W W' : World} {A B : Option Addr} {zs : List Int} (h : Two64 W A B zs) (hb : Below W.heap.size W W') : Two64 W' A B zs := ⟨Kd.C_below h.a hb, Kd.C_below h.b hb⟩
theorem decSh_len (bs : List Int) (p : Nat) : (decSh bs p).1.length ≤ 16 := by
  unfold decSh
  split
  · rename_i h
    exact (shapeOk_len h.2).2
  · simp
theorem readSh_len (l : List UInt8) : (readSh l).1.length ≤ 16 := by
  unfold readSh
  split
  · rename_i h
    exact (shapeOk_len h.2).2
  · simp

set_option maxRecDepth 100000 in
set_option maxHeartbeats 4000000 in
theorem forms_walk (A : Option Addr) (c : Nat) (xs : List Int) (A1 : Option Addr) (c1 : Nat) (bs : List Int) (s : ByteArray) (i : Int) (w : World) (hC : (Kd.int .i64).C w A xs.length xs) (hc : xs.length ≤ c)
    (hC1 : (Kd.int .u8).C w A1 bs.length bs) (hc1 : bs.length ≤ c1) (hb1 : ∀ b ∈ bs, 0 ≤ b ∧ b ≤ 255) :
    Calls Try.prog 3 #[.slice A xs.length c, .slice A1 bs.length c1, .string s, .int .i64 i] w fun e w' => e = .returned (.bool true) ∧ Below w.heap.size w w' := by
  have hgr := great9 w A c xs hC hc _ rfl
  by_cases h1 : 100 < xs.length
  · rw [if_pos h1] at hgr
    have HG := Lib.hid hgr
    clear hgr hC hC1 h1
    go_enter Try.func3, Try.ntmps3
    go_wp2_with (go_at_call 9; refine HG.out.mono ?_; rintro e w1 ⟨rfl, hb⟩; have HB := Lib.hid hb; clear hb)
    go_ret
    exact ⟨rfl, HB.out⟩
  · rw [if_neg h1] at hgr
    have HG := Lib.hid hgr
    have hx100 : xs.length ≤ 100 := by omega
    clear hgr h1
    by_cases h2 : 100 < bs.length
    · have h2i : (100 : Int) < (bs.length : Int) := by omega
      clear hC hC1 h2 hx100
      go_enter Try.func3, Try.ntmps3
      go_wp2_with (go_at_call 9; refine HG.out.mono ?_; rintro e w1 ⟨rfl, hb⟩; have HB := Lib.hid hb; clear hb)
      go_ret
      exact ⟨rfl, HB.out⟩
    · have h2i : ¬ (100 : Int) < (bs.length : Int) := by omega
      have hb100 : bs.length ≤ 100 := by omega
      clear h2
      by_cases h3 : 100 < s.size
      · have h3i : (100 : Int) < (s.size : Int) := by omega
        clear hC hC1 h3 hx100
        go_enter Try.func3, Try.ntmps3
        go_wp2_with (go_at_call 9; refine HG.out.mono ?_; rintro e w1 ⟨rfl, hb⟩; have HB := Lib.hid hb; clear hb)
        go_ret
        exact ⟨rfl, HB.out⟩
      · have h3i : ¬ (100 : Int) < (s.size : Int) := by omega
        have hs100 : s.size ≤ 100 := by omega
        clear h3
        have hbl : bs.length < 140737488355328 := by omega
        have HX := Lib.hid hx100
        have HBL := Lib.hid hb100
        have HS := Lib.hid hs100
        have HBY := Lib.hid hb1
        have HC0 : Hid (Rows3 w A A A1 A1 xs bs) := Lib.hid ⟨hC, hC, hC1, hC1⟩
        have HCC := Lib.hid (And.intro hc hc1)
        have HE1 := Lib.hid (fun (W : World) (A : Option Addr) (c : Nat) (h : (Kd.int .i64).C W A xs.length xs) => Encode11_any W A c xs h)
        have HE2 := Lib.hid (fun (W : World) (A : Option Addr) (c : Nat) (h : (Kd.int .i64).C W A xs.length xs) (hc : xs.length ≤ c) => backstayref06_Encode.calls 2000 A c xs (encSh xs).1 (encSh xs).2 W h hc (encode_f xs (by have := HX.out; omega)))
        have HD1 := Lib.hid (fun (W : World) (g base : Nat) (v : Value) (h : ReelIs W g base v bs 0) => Decode14_any W g base v bs 0 h)
        have HD2 := Lib.hid (fun (W : World) (g base : Nat) (v : Value) (h : RefIs W g base v bs 0) => Decode15_any W g base v bs 0 h hbl)
        have HCe1 := Lib.hid (fun (W : World) (A : Option Addr) (c : Nat) (h : (Kd.int .i64).C W A xs.length xs) => Cell16_any W A c xs i h)
        have HCe2 := Lib.hid (fun (W : World) (A : Option Addr) (c : Nat) (h : (Kd.int .i64).C W A xs.length xs) (hc : xs.length ≤ c) => backstayref06_Cell.calls 2000 A c xs i (cellSh xs i).1 (cellSh xs i).2 W h hc (cell_f xs i (by have := HX.out; omega)))
        have HRd1 := Lib.hid (fun (W : World) => Read18_any W s (by omega))
        have HRd2 := Lib.hid (fun (W : World) => backstayref06_Read.calls 7000 s (readSh s.data.toList).1 (readSh s.data.toList).2 W (read_f 7000 (Nat.le_refl _) s (by omega)))
        have HSh1 := Lib.hid (fun (W : World) (A : Option Addr) (c : Nat) (h : (Kd.int .i64).C W A xs.length xs) => Show24_any W A c xs h)
        have HSh2 := Lib.hid (fun (W : World) (A : Option Addr) (c : Nat) (h : (Kd.int .i64).C W A xs.length xs) (hc : xs.length ≤ c) => backstayref06_Show.calls 2000 A c xs _ W h hc (show_f 2000 (Nat.le_refl _) xs (by have := HX.out; omega)))
        have HCk1 := Lib.hid (fun (W : World) (A : Option Addr) (c : Nat) (h : (Kd.int .i64).C W A xs.length xs) => check22 W A c xs h)
        have HCk2 := Lib.hid (fun (W : World) (A : Option Addr) (c : Nat) (h : (Kd.int .i64).C W A xs.length xs) (hc : xs.length ≤ c) => check23 W A c xs h hc (by have := HX.out; omega))
        have HDL := Lib.hid (decSh_len bs 0)
        have HRL := Lib.hid (readSh_len s.data.toList)
        generalize encSh xs = E at HE1 HE2
        generalize decSh bs 0 = D at HD1 HD2 HDL
        generalize cellSh xs i = CE at HCe1 HCe2
        generalize readSh s.data.toList = RD at HRd1 HRd2 HRL
        generalize showSh xs = SH at HSh1 HSh2
        generalize chk xs = CK at HCk1 HCk2
        obtain ⟨zs, er⟩ := E
        obtain ⟨ys, ed, kd⟩ := D
        obtain ⟨cv, ce⟩ := CE
        obtain ⟨ts, et⟩ := RD
        simp only at HE1 HE2 HD1 HD2 HCe1 HCe2 HRd1 HRd2 HDL HRL
        clear hC hC1 hx100 hb100 hs100 hb1
        go_enter Try.func3, Try.ntmps3
        go_upto_region 4 with (first | (go_at_call 9; refine HG.out.mono ?_; rintro e w1 ⟨rfl, hb⟩; have HB := Lib.hid hb; clear hb HG) | ((with_reducible refine gate_builtin (b := .append) (xs := #[.tmp 43, .tmp 44]) rfl ?_); at_builtin; refine Kd.R_append_rows (Kd.int .i64) (w0 := w) (Rr := fun x cs => cs = [Value.int .i64 x]) w.heap.size rfl (.tmp 43) (.tmp 44) 22 3 (.int .i64 0) 8 rfl Try.underlying22 info3 rfl (by decide) (by omega) (.slice (some ⟨w1.heap.size, 0, none⟩) 0 0) [] xs A xs.length c (fun _ => True) (fun _ => False) rfl rfl (Kd.R_of_own (World.ownsRow_made _ _ 0 HB.out.size (by decide) rfl) (fun _ _ => trivial)) (Kd.C_below HC0.out.s (below_then HB.out HB.out.size (below_alloc (Below.refl _ w1) _))) (fun _ _ h => h) (fun _ h => h.elim) (fun _ _ => trivial) (below_then HB.out HB.out.size (below_alloc (Below.refl _ w1) _)) (below_then HB.out HB.out.size (below_alloc (Below.refl _ w1) _)).size (by have := HX.out; simp; omega) ?_; intro v2 w2 hR2 hB2 _ _; have HO2 := Lib.hid (R_own64 hR2); have HB2 := Lib.hid hB2; clear hR2 hB2) | (go_at_call 10; (with_reducible refine (Twin_any A1 c1 bs _ (Kd.C_below HC0.out.b HB2.out) HCC.out.2 hbl).mono ?_); rintro e w3 ⟨v3, rfl, ho, hb⟩; have HO3 := Lib.hid ho; have HO2' := Lib.hid (pw_own_below HO2.out hb); have HB3 := Lib.hid (below_then HB2.out HB2.out.size hb); clear ho hb))
        simp only [List.nil_append] at HO2'
        obtain ⟨A2, c2, rfl⟩ := own_slice HO2'.out
        obtain ⟨A3, c3, rfl⟩ := own_slice HO3.out
        have HR3 : Hid (Rows3 w3 A A2 A1 A3 xs bs) := Lib.hid ⟨Kd.C_below HC0.out.s HB3.out, (own_CI HO2'.out).2.2, Kd.C_below HC0.out.b HB3.out, (row_C HO3.out).2.2⟩
        have HC2 : Hid (xs.length ≤ c2 ∧ bs.length ≤ c3) := Lib.hid ⟨(own_CI HO2'.out).2.1, (row_C HO3.out).2.1⟩
        clear HO2 HO2' HO3 HB HB2
        go_upto_region 6 with (first | (go_at_call 11; refine (HE1.out _ A2 c2 HR3.out.own).mono ?_; rintro e w4 ⟨u4, rfl, hu, hb⟩; have HU4 := Lib.hid hu; have HR4 := Lib.hid (HR3.out.below hb); have HB4 := Lib.hid (below_then HB3.out HB3.out.size hb); clear hu hb) | (go_at_call 12; refine (HE2.out _ A c HR4.out.s HCC.out.1).mono ?_; rintro e w5 ⟨u5, rfl, hu, hb⟩; have HV5 := Lib.hid (R_own8 hu); have HU5 := Lib.hid (pw_own_below HU4.out hb); have HR5 := Lib.hid (HR4.out.below hb); have HB5 := Lib.hid (below_then HB4.out HB4.out.size hb); clear hu hb))
        obtain ⟨A4, c4, rfl⟩ := own_slice HU5.out
        obtain ⟨A5, c5, rfl⟩ := own_slice HV5.out
        have HZ5 : Hid (Two8 w5 A4 A5 zs) := Lib.hid ⟨(row_C HU5.out).2.2, (row_C HV5.out).2.2⟩
        clear HU4 HU5 HV5 HR3 HR4 HB3 HB4 HE1 HE2
        go_upto_region 7 with (first | (go_at_call 13; refine (On_any A3 c3 bs _ HR5.out.raw (by omega) HBY.out).mono ?_; rintro e w6 ⟨g, vg, rfl, hg, hr, hb⟩; have HG6 := Lib.hid hg; have HRe6 := Lib.hid hr; have HB6 := Lib.hid hb; clear hg hr hb) | (go_at_call 10; (with_reducible refine (Twin_any A1 c1 bs _ (Kd.C_below HR5.out.b HB6.out) HCC.out.2 hbl).mono ?_); rintro e w7 ⟨v7, rfl, ho, hb⟩; obtain ⟨A7, c7, rfl⟩ := own_slice ho; have HO7 := Lib.hid ho; have HRe7 := Lib.hid (HRe6.out.below hb); have HB7 := Lib.hid (below_then HB6.out HB6.out.size hb); clear ho hb))
        have hba := below_alloc (Below.refl w7.heap.size w7) (.cells #[.slice A7 bs.length c7, .int .i64 0] 37)
        have HRe8 := Lib.hid (HRe7.out.below hba)
        have HB8 := Lib.hid (below_then HB7.out HB7.out.size hba)
        have HRf8 : Hid (RefIs (w7.alloc (.cells #[.slice A7 bs.length c7, .int .i64 0] 37)) w7.heap.size w6.heap.size (.slice A7 bs.length c7) bs 0) := Lib.hid ⟨World.alloc_heap_new _ _, pw_own_below HO7.out hba, Nat.zero_le _, by omega, HBY.out⟩
        have HH8 : Hid (w5.heap.size ≤ w7.heap.size) := Lib.hid HB7.out.size
        clear hba HRe6 HRe7 HB6 HB7 HO7
        generalize w7.alloc (.cells #[.slice A7 bs.length c7, .int .i64 0] 37) = w8 at *
        generalize w7.heap.size = h at *
        go_upto_region 9 with (first | (go_at_call 14; refine (HD1.out _ _ _ _ HRe8.out).mono ?_; rintro e w9 ⟨u9, rfl, hu, hr, hf⟩; have HU9 := Lib.hid hu; have HRe9 := Lib.hid hr; have HRf9 := Lib.hid (ref_after HRe8.out HRf8.out hf); have HB9 := Lib.hid (HB8.out.trans (hf.below HB8.out.size (fun i hi e => by subst e; exact absurd HG6.out (Nat.not_le.2 hi)))); clear hu hr hf) | (go_at_call 15; refine (HD2.out _ _ _ _ HRf9.out).mono ?_; rintro e w10 ⟨u10, q, rfl, hu, hr, hq, hf⟩; have HV10 := Lib.hid hu; have HRf10 := Lib.hid hr; have HQ := Lib.hid hq; have HRe10 := Lib.hid (reel_after HRe9.out HRf9.out hf); have HB10 := Lib.hid (HB9.out.trans (hf.below HB9.out.size (fun i hi e => by subst e; exact absurd HH8.out (Nat.not_le.2 hi)))); have HU10 := Lib.hid (own_fr HU9.out hf (fun b hb e => by subst e; exact absurd (World.ownsRow.lt HU9.out b hb).1 (Nat.not_le.2 (blk_lt HRf8.out.blk)))); clear hu hr hq hf))
        have HR10 := Lib.hid (HR5.out.below HB10.out)
        have HZ10 := Lib.hid (HZ5.out.below HB10.out)
        have HW10 := Lib.hid (below_then HB5.out HB5.out.size HB10.out)
        obtain ⟨A9, c9, rfl⟩ := own_slice HU10.out
        obtain ⟨A10, c10, rfl⟩ := own_slice HV10.out
        have HY10 : Hid (Two64 w10 A9 A10 ys) := Lib.hid ⟨(own_CI HU10.out).2.2, (own_CI HV10.out).2.2⟩
        have HYC : Hid (ys.length ≤ c9 ∧ ys.length ≤ c10) := Lib.hid ⟨(own_CI HU10.out).2.1, (own_CI HV10.out).2.1⟩
        clear HR5 HZ5 HB5 HB8 HB9 HB10 HRe8 HRe9 HRf8 HRf9 HU9 HU10 HV10 HG6 HH8 HD1 HD2
        go_upto_region 13 with (first | (go_at_call 16; refine (HCe1.out _ A2 c2 HR10.out.own).mono ?_; rintro e w11 ⟨rfl, hb⟩; have HR11 := Lib.hid (HR10.out.below hb); have HZ11 := Lib.hid (HZ10.out.below hb); have HY11 := Lib.hid (HY10.out.below hb); have HRe11 := Lib.hid (HRe10.out.below hb); have HRf11 := Lib.hid (HRf10.out.below hb); have HW11 := Lib.hid (below_then HW10.out HW10.out.size hb); clear hb HR10 HZ10 HY10 HRe10 HRf10 HW10) | (go_at_call 17; refine (HCe2.out _ A c HR11.out.s HCC.out.1).mono ?_; rintro e w12 ⟨rfl, hd⟩; have hb := hd.below; have HR12 := Lib.hid (HR11.out.below hb); have HZ12 := Lib.hid (HZ11.out.below hb); have HY12 := Lib.hid (HY11.out.below hb); have HRe12 := Lib.hid (HRe11.out.below hb); have HRf12 := Lib.hid (HRf11.out.below hb); have HW12 := Lib.hid (below_then HW11.out HW11.out.size hb); clear hd hb HR11 HZ11 HY11 HRe11 HRf11 HW11) | (go_at_call 18; refine (HRd1.out _).mono ?_; rintro e w13 ⟨u13, rfl, hu, hb⟩; have HU13 := Lib.hid hu; have HR13 := Lib.hid (HR12.out.below hb); have HZ13 := Lib.hid (HZ12.out.below hb); have HY13 := Lib.hid (HY12.out.below hb); have HRe13 := Lib.hid (HRe12.out.below hb); have HRf13 := Lib.hid (HRf12.out.below hb); have HW13 := Lib.hid (below_then HW12.out HW12.out.size hb); clear hu hb HR12 HZ12 HY12 HRe12 HRf12 HW12) | (go_at_call 19; refine (HRd2.out _).mono ?_; rintro e w14 ⟨u14, rfl, hu, hb⟩; have HV14 := Lib.hid (R_own64 hu); have HU14 := Lib.hid (pw_own_below HU13.out hb); have HR14 := Lib.hid (HR13.out.below hb); have HZ14 := Lib.hid (HZ13.out.below hb); have HY14 := Lib.hid (HY13.out.below hb); have HRe14 := Lib.hid (HRe13.out.below hb); have HRf14 := Lib.hid (HRf13.out.below hb); have HW14 := Lib.hid (below_then HW13.out HW13.out.size hb); clear hu hb HR13 HZ13 HY13 HRe13 HRf13 HW13))
        obtain ⟨A13, c13, rfl⟩ := own_slice HU14.out
        obtain ⟨A14, c14, rfl⟩ := own_slice HV14.out
        have HT14 : Hid (Two64 w14 A13 A14 ts) := Lib.hid ⟨(own_CI HU14.out).2.2, (own_CI HV14.out).2.2⟩
        have HTC : Hid (ts.length ≤ c13 ∧ ts.length ≤ c14) := Lib.hid ⟨(own_CI HU14.out).2.1, (own_CI HV14.out).2.1⟩
        clear HU13 HU14 HV14 HCe1 HCe2 HRd1 HRd2
        have hcv1 : ∀ m, (convert 23 9 (.slice A4 zs.length c4)).run Try.prog (w14.drewN m) = .ok (.string (strOfNums zs)) (w14.drewN m) := fun m => string_read (HZ14.out.below (pw_below_drewN (Below.refl _ _) m)).a
        have hcv2 : ∀ m, (convert 23 9 (.slice A5 zs.length c5)).run Try.prog (w14.drewN m) = .ok (.string (strOfNums zs)) (w14.drewN m) := fun m => string_read (HZ14.out.below (pw_below_drewN (Below.refl _ _) m)).b
        have HI1 := Lib.hid (fun m => ints20 (w14.drewN m) A9 A10 c9 c10 ys (HY14.out.below (pw_below_drewN (Below.refl _ _) m)).a HYC.out.1 (HY14.out.below (pw_below_drewN (Below.refl _ _) m)).b HYC.out.2 (by have := HDL.out; omega))
        have HI2 := Lib.hid (fun m => ints20 (w14.drewN m) A13 A14 c13 c14 ts (HT14.out.below (pw_below_drewN (Below.refl _ _) m)).a HTC.out.1 (HT14.out.below (pw_below_drewN (Below.refl _ _) m)).b HTC.out.2 (by have := HRL.out; omega))
        have hq1 := HRf14.out.cells.2
        obtain ⟨pl, hpl⟩ : ∃ pl : Int, ((0 + kd : Nat) : Int) = pl := ⟨_, rfl⟩
        have HAt := Lib.hid (fun m => At_any (w14.drewN m) g _ _ _ _ (HRe14.out.below (pw_below_drewN (Below.refl _ _) m)))
        by_cases he : ed = 0
        · subst he
          have hqk := HQ.out rfl
          rw [hqk] at hq1
          go_quiet (first | (go_at_call 20; with_reducible first | (refine Calls.quiet_of (HI1.out _)) | (refine Calls.quiet_of (HI2.out _))) | (go_at_call 21; with_reducible refine quiet_same (HAt.out _)))
          have HR15 := Lib.hid (HR14.out.below (pw_below_drewN (Below.refl _ _) nq))
          have HW15 := Lib.hid (below_then HW14.out HW14.out.size (pw_below_drewN (Below.refl _ _) nq))
          clear hcv1 hcv2 HI1 HI2 hq1 HAt HR14 HZ14 HY14 HT14 HRe14 HRf14 HW14 HYC HTC HQ hpl
          generalize w14.drewN nq = w15 at *
          go_wp2_with (first | (go_at_call 22; refine (HCk1.out _ A2 c2 HR15.out.own).mono ?_; rintro e w16 ⟨rfl, hb⟩; have HR16 := Lib.hid (HR15.out.below hb); have HW16 := Lib.hid (below_then HW15.out HW15.out.size hb); clear hb HR15 HW15) | (go_at_call 23; refine (HCk2.out _ A c HR16.out.s HCC.out.1).mono ?_; rintro e w17 ⟨rfl, hb⟩; have HR17 := Lib.hid (HR16.out.below hb); have HW17 := Lib.hid (below_then HW16.out HW16.out.size hb); clear hb HR16 HW16) | (go_at_call 24; refine (HSh1.out _ A2 c2 HR17.out.own).mono ?_; rintro e w18 ⟨rfl, hb⟩; have HR18 := Lib.hid (HR17.out.below hb); have HW18 := Lib.hid (below_then HW17.out HW17.out.size hb); clear hb HR17 HW17) | (go_at_call 25; refine (HSh2.out _ A c HR18.out.s HCC.out.1).mono ?_; rintro e w19 ⟨rfl, hd⟩; have HR19 := Lib.hid (HR18.out.below hd.below); have HW19 := Lib.hid (below_then HW18.out HW18.out.size hd.below); clear hd HR18 HW18) | (go_at_call 20; (with_reducible refine (ints20 _ A2 A c2 c xs HR19.out.own HC2.out.1 HR19.out.s HCC.out.1 (by have := HX.out; omega)).mono ?_); rintro e w20 ⟨rfl, hd⟩; have hb := (Drawn0.mk hd).below; have hcv3 := string_read (c := c3) (HR19.out.below hb).raw; have hcv4 := string_read (c := c1) (HR19.out.below hb).b; have HW20 := Lib.hid (below_then HW19.out HW19.out.size hb); clear hd hb HR19 HW19))
          go_ret
          exact ⟨rfl, HW20.out⟩
        · have he' : ¬ (ed : Int) = 0 := he
          go_quiet (first | (go_at_call 20; with_reducible first | (refine Calls.quiet_of (HI1.out _)) | (refine Calls.quiet_of (HI2.out _))) | (go_at_call 21; with_reducible refine quiet_same (HAt.out _)))
          have HR15 := Lib.hid (HR14.out.below (pw_below_drewN (Below.refl _ _) nq))
          have HW15 := Lib.hid (below_then HW14.out HW14.out.size (pw_below_drewN (Below.refl _ _) nq))
          clear hcv1 hcv2 HI1 HI2 hq1 HAt HR14 HZ14 HY14 HT14 HRe14 HRf14 HW14 HYC HTC HQ hpl
          generalize w14.drewN nq = w15 at *
          go_wp2_with (first | (go_at_call 22; refine (HCk1.out _ A2 c2 HR15.out.own).mono ?_; rintro e w16 ⟨rfl, hb⟩; have HR16 := Lib.hid (HR15.out.below hb); have HW16 := Lib.hid (below_then HW15.out HW15.out.size hb); clear hb HR15 HW15) | (go_at_call 23; refine (HCk2.out _ A c HR16.out.s HCC.out.1).mono ?_; rintro e w17 ⟨rfl, hb⟩; have HR17 := Lib.hid (HR16.out.below hb); have HW17 := Lib.hid (below_then HW16.out HW16.out.size hb); clear hb HR16 HW16) | (go_at_call 24; refine (HSh1.out _ A2 c2 HR17.out.own).mono ?_; rintro e w18 ⟨rfl, hb⟩; have HR18 := Lib.hid (HR17.out.below hb); have HW18 := Lib.hid (below_then HW17.out HW17.out.size hb); clear hb HR17 HW17) | (go_at_call 25; refine (HSh2.out _ A c HR18.out.s HCC.out.1).mono ?_; rintro e w19 ⟨rfl, hd⟩; have HR19 := Lib.hid (HR18.out.below hd.below); have HW19 := Lib.hid (below_then HW18.out HW18.out.size hd.below); clear hd HR18 HW18) | (go_at_call 20; (with_reducible refine (ints20 _ A2 A c2 c xs HR19.out.own HC2.out.1 HR19.out.s HCC.out.1 (by have := HX.out; omega)).mono ?_); rintro e w20 ⟨rfl, hd⟩; have hb := (Drawn0.mk hd).below; have hcv3 := string_read (c := c3) (HR19.out.below hb).raw; have hcv4 := string_read (c := c1) (HR19.out.below hb).b; have HW20 := Lib.hid (below_then HW19.out HW19.out.size hb); clear hd hb HR19 HW19))
          go_ret
          exact ⟨rfl, HW20.out⟩
end Go.Proofs.Ytacmajlbaenjfaa
