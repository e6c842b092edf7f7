/- alive: the chapter's examples. -/
import Derived.Test.YtacmajlbaenjfaaTa
namespace Go.Proofs.Ytacmajlbaenjfaa
open Go.RowKit Go.Shelf Go.Proofs.YtacmajlbaenjfaaW.PrintWords Go.Proofs.YtacmajlbaenjfaaW.PrintLast Go.Proofs.YtacmajlbaenjfaaW.PrintMore

theorem enc11k (W : World) (A : Option Addr) (c n : Nat) (xs zs : List Int) (er : Int) (hC : (Kd.int .i64).C W A xs.length xs) (he : encSh xs = (zs, er)) (hn : xs.length = n) :
    Calls Try.prog 11 #[.slice A n c] W fun e w' => ∃ A2 c2, e = .returned (.tuple #[.slice A2 zs.length c2, .int .i64 er]) ∧ w'.ownsRow W.heap.size 5 1 (.slice A2 zs.length c2) zs.length (nums .u8 zs) ∧ Below W.heap.size W w' := by
  subst hn
  have h := Encode11_any W A c xs hC
  rw [he] at h
  refine h.mono ?_
  rintro e w' ⟨u, rfl, hu, hb⟩
  obtain ⟨A2, c2, rfl⟩ := own_slice hu
  exact ⟨A2, c2, rfl, hu, hb⟩
theorem dec14k (W : World) (g base : Nat) (v : Value) (bs : List Int) (er : Int) (hR : ReelIs W g base v bs 0) (he : (decSh bs 0).2.1 = er) :
    Calls Try.prog 14 #[.pointer (some ⟨g, 0, none⟩)] W fun e w' => ∃ A n c, e = .returned (.tuple #[.slice A n c, .int .i64 er]) ∧ Fr (fun i => i = g) W w' := by
  have h := Decode14_any W g base v bs 0 hR
  rw [he] at h
  refine h.mono ?_
  rintro e w' ⟨u, rfl, hu, _, hf⟩
  obtain ⟨A2, c2, rfl⟩ := own_slice hu
  exact ⟨A2, _, c2, rfl, hf⟩
theorem show38k (W : World) (A B : Option Addr) (c d n m : Nat) (xs ys : List Int) (s : ByteArray) (hC : (Kd.int .i64).C W A xs.length xs) (hD : (Kd.int .i64).C W B ys.length ys) (hl : xs.length ≤ 1000) (hm : ys.length ≤ 1000) (he : (⟨(showG xs ys).toArray⟩ : ByteArray) = s) (hn : xs.length = n) (hm' : ys.length = m) :
    Calls Try.prog 38 #[.agg #[.slice A n c, .slice B m d]] W fun e w' => e = .returned (.string s) ∧ Below W.heap.size W w' := by
  subst hn hm'
  have h := ShowSig38_any W A B c d xs ys hC hD hl hm
  rwa [he] at h
theorem chk22k (W : World) (A : Option Addr) (c n : Nat) (xs : List Int) (r : Int) (hC : (Kd.int .i64).C W A xs.length xs) (he : (if shapeOk xs then 0 else 60 : Int) = r) (hn : xs.length = n) :
    Calls Try.prog 22 #[.slice A n c] W fun e w' => e = .returned (.int .i64 r) ∧ Below W.heap.size W w' := by
  subst hn
  have h := Check_any W A c xs hC
  rwa [he] at h
theorem chk27k (W : World) (A B : Option Addr) (c d n m : Nat) (xs ys : List Int) (r : Int) (hC : (Kd.int .i64).C W A xs.length xs) (hD : (Kd.int .i64).C W B ys.length ys) (hl : xs.length ≤ 1000) (hm : ys.length ≤ 1000) (he : (if sigOk xs ys then 0 else 61 : Int) = r) (hn : xs.length = n) (hm' : ys.length = m) :
    Calls Try.prog 27 #[.agg #[.slice A n c, .slice B m d]] W fun e w' => e = .returned (.int .i64 r) ∧ Below W.heap.size W w' := by
  subst hn hm'
  have h := CheckSig_any W A B c d xs ys hC hD hl hm
  rwa [he] at h
theorem on13k (A : Option Addr) (c n : Nat) (bs : List Int) (w : World) (hbs : (Kd.int .u8).C w A bs.length bs) (hl : bs.length ≤ 140737488355328) (hb : ∀ b ∈ bs, 0 ≤ b ∧ b ≤ 255) (hn : bs.length = n) :
    Calls Try.prog 13 #[.slice A n c] w fun e w' => ∃ g v, e = .returned (.pointer (some ⟨g, 0, none⟩)) ∧ w.heap.size ≤ g ∧ ReelIs w' g w.heap.size v bs 0 ∧ Below w.heap.size w w' := by
  subst hn
  exact On_any A c bs w hbs hl hb
theorem lit_own (W : World) : (W.alloc (.cells #[.int .u8 1, .int .u8 4] 5)).ownsRow W.heap.size 5 1 (.slice (some ⟨W.heap.size, 0, none⟩) 2 2) 2 (nums .u8 [1, 4]) :=
  ⟨rfl, .inr ⟨W.heap.size, 2, _, rfl, Nat.le_refl _, World.alloc_heap_new _ _, Nat.le_refl _, by decide, rfl, rfl⟩⟩

set_option maxRecDepth 100000 in
set_option maxHeartbeats 4000000 in
theorem alive26 (w : World) : Calls Try.prog 26 #[] w fun e w' => e = .returned (.bool true) ∧ Below w.heap.size w w' := by
  have K1 := Lib.hid (fun W => of41 W ⟨#[73, 82, 70]⟩ [1, 2, 3] (by decide) (by decide +kernel))
  have K2 := Lib.hid (fun W => of41 W ⟨#[82, 82, 82, 82, 73]⟩ [2, 2, 2, 2, 1] (by decide) (by decide +kernel))
  have K3 := Lib.hid (fun W => of41 W ⟨#[80]⟩ [4] (by decide) (by decide +kernel))
  have K4 := Lib.hid (fun W => sig42 W ⟨#[73, 80]⟩ ⟨#[82]⟩ [1, 4] [2] (by decide) (by decide) (by decide +kernel) (by decide +kernel))
  have K5 := Lib.hid (fun W => sig42 W ⟨#[]⟩ ⟨#[80]⟩ [] [4] (by decide) (by decide) (by decide +kernel) (by decide +kernel))
  have HW := Lib.hid (Below.refl w.heap.size w)
  go_enter Try.func26, Try.ntmps26
  go_upto_region 2 with (first | (go_at_call 41; (with_reducible refine (K1.out _).mono ?_); rintro e w1 ⟨A1, c1, rfl, hu, hb⟩; have HU := Lib.hid (own_CI hu).2.2; have HW_ := Lib.hid (below_then HW.out HW.out.size hb); clear HW; have HW := HW_; clear HW_ hu hb) | (go_at_call 11; (with_reducible refine (enc11k _ A1 c1 3 [1, 2, 3] [3, 36] 0 HU.out ex_enc1 rfl).mono ?_); rintro e w2 ⟨A2, c2, rfl, hu, hb⟩; have HA := Lib.hid (row_C hu).2.2; have HW_ := Lib.hid (below_then HW.out HW.out.size hb); clear HW HU; have HW := HW_; clear HW_ hu hb))
  go_upto_region 3 with (first | (go_at_call 41; (with_reducible refine (K2.out _).mono ?_); rintro e w3 ⟨A3, c3, rfl, hu, hb⟩; have HU := Lib.hid (own_CI hu).2.2; have HS := Lib.hid hb; have HW_ := Lib.hid (below_then HW.out HW.out.size hb); clear HW; have HW := HW_; clear HW_ hu hb) | (go_at_call 11; (with_reducible refine (enc11k _ A3 c3 5 [2, 2, 2, 2, 1] [5, 85, 0] 0 HU.out ex_enc2 rfl).mono ?_); rintro e w4 ⟨A4, c4, rfl, hu, hb⟩; have HB := Lib.hid (row_C hu).2.2; have HA4 := Lib.hid (Kd.C_below HA.out (below_then HS.out HS.out.size hb)); have HW_ := Lib.hid (below_then HW.out HW.out.size hb); clear HW HU HS HA; have HW := HW_; clear HW_ hu hb))
  have HL := Lib.hid (lit_own w4)
  have HS := Lib.hid (below_alloc (Below.refl w4.heap.size w4) (.cells #[.int .u8 1, .int .u8 4] 5))
  go_upto_region 4 with (first | (go_at_call 13; (with_reducible refine (on13k (some ⟨w4.heap.size, 0, none⟩) 2 2 [1, 4] _ (row_C (bs := [1, 4]) HL.out).2.2 (by decide) (by decide) rfl).mono ?_); rintro e w5 ⟨g, vg, rfl, hg, hr, hb⟩; have HG := Lib.hid hg; have HR := Lib.hid hr; have HS_ := Lib.hid (below_then HS.out HS.out.size hb); clear HS; have HS := HS_; clear HS_ hg hr hb) | (go_at_call 14; (with_reducible refine (dec14k _ _ _ _ _ 60 HR.out ex_dec).mono ?_); rintro e w6 ⟨A5, n5, c5, rfl, hf⟩; have HS_ := Lib.hid (HS.out.trans (hf.below HS.out.size (fun i hi e => absurd hi (by have := HG.out; simp at this; omega)))); clear HS; have HS := HS_; clear HS_ hf))
  have hcv1 : (convert 23 9 (.slice A2 2 c2)).run Try.prog w6 = .ok (.string ⟨#[3, 36]⟩) w6 := string_read (Kd.C_below HA4.out HS.out)
  have hcv2 : (convert 23 9 (.slice A4 3 c4)).run Try.prog w6 = .ok (.string ⟨#[5, 85, 0]⟩) w6 := string_read (Kd.C_below HB.out HS.out)
  have HW_ := Lib.hid (below_then HW.out HW.out.size HS.out)
  clear HW
  have HW := HW_
  clear HW_ HA4 HB HS HG HR HL K1 K2
  go_wp2_with (first | (go_at_call 42; (with_reducible refine (K4.out _).mono ?_); rintro e w7 ⟨B1, d1, B2, d2, rfl, hc, hC, hd, hD, hb⟩; have HP := Lib.hid (And.intro hC hD); have HW_ := Lib.hid (below_then HW.out HW.out.size hb); clear HW; have HW := HW_; clear HW_ hc hC hd hD hb) | (go_at_call 38; (with_reducible refine (show38k _ B1 B2 d1 d2 2 1 [1, 4] [2] ⟨#[73, 80, 62, 82]⟩ HP.out.1 HP.out.2 (by decide) (by decide) ex_show1 rfl rfl).mono ?_); rintro e w8 ⟨rfl, hb⟩; have HW_ := Lib.hid (below_then HW.out HW.out.size hb); clear HW; have HW := HW_; clear HW_ hb) | (go_at_call 38; (with_reducible refine (show38k _ none none 0 0 0 0 [] [] ⟨#[62]⟩ (Kd.C_nil _ _) (Kd.C_nil _ _) (by decide) (by decide) ex_show2 rfl rfl).mono ?_); rintro e w9 ⟨rfl, hb⟩; have HW_ := Lib.hid (below_then HW.out HW.out.size hb); clear HW; have HW := HW_; clear HW_ hb) | (go_at_call 41; (with_reducible refine (K3.out _).mono ?_); rintro e w10 ⟨A6, c6, rfl, hu, hb⟩; have HU := Lib.hid (own_CI hu).2.2; have HW_ := Lib.hid (below_then HW.out HW.out.size hb); clear HW; have HW := HW_; clear HW_ hu hb) | (go_at_call 22; (with_reducible refine (chk22k _ A6 c6 1 [4] 60 HU.out ex_chk1 rfl).mono ?_); rintro e w11 ⟨rfl, hb⟩; have HW_ := Lib.hid (below_then HW.out HW.out.size hb); clear HW; have HW := HW_; clear HW_ hb) | (go_at_call 42; (with_reducible refine (K5.out _).mono ?_); rintro e w12 ⟨B3, d3, B4, d4, rfl, hc, hC, hd, hD, hb⟩; have HP2 := Lib.hid (And.intro hC hD); have HW_ := Lib.hid (below_then HW.out HW.out.size hb); clear HW; have HW := HW_; clear HW_ hc hC hd hD hb) | (go_at_call 27; (with_reducible refine (chk27k _ B3 B4 d3 d4 0 1 [] [4] 61 HP2.out.1 HP2.out.2 (by decide) (by decide) ex_chk2 rfl rfl).mono ?_); rintro e w13 ⟨rfl, hb⟩; have HW_ := Lib.hid (below_then HW.out HW.out.size hb); clear HW; have HW := HW_; clear HW_ hb))
  go_ret
  exact ⟨rfl, HW.out⟩
end Go.Proofs.Ytacmajlbaenjfaa
