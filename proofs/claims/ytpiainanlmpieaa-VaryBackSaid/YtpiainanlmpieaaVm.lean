/- back's contract. -/
import Derived.Test.YtpiainanlmpieaaVl
import Derived.Test.YtpiainanlmpieaaVj
import Derived.Deep.DeepCutAuto
import Derived.Deep.CutBlock
import Derived.Lib.Bytes
namespace Go.Proofs.Ytpiainanlmpieaa
open Go.RowKit Go.Shelf Go.Proofs.YtpiainanlmpieaaW.PrintWords Go.Proofs.YtpiainanlmpieaaW.PrintLast Go.Proofs.YtpiainanlmpieaaW.PrintMore
open Go.Proofs.Ytpiainanlmpieaa.Pgreat

theorem bytes_inj : ∀ {xs ys : List Int}, (∀ b ∈ xs, 0 ≤ b ∧ b ≤ 255) → (∀ b ∈ ys, 0 ≤ b ∧ b ≤ 255) → (xs.map fun n => UInt8.ofNat n.toNat) = (ys.map fun n => UInt8.ofNat n.toNat) → xs = ys
  | [], [], _, _, _ => rfl
  | [], _ :: _, _, _, h => by simp at h
  | _ :: _, [], _, _, h => by simp at h
  | x :: xs, y :: ys, hx, hy, h => by
    simp only [List.map_cons, List.cons.injEq] at h
    have h1 := congrArg UInt8.toNat h.1
    have bx := hx x (by simp)
    have by_ := hy y (by simp)
    rw [UInt8.toNat_ofNat', UInt8.toNat_ofNat', Nat.mod_eq_of_lt (by omega), Nat.mod_eq_of_lt (by omega)] at h1
    rw [bytes_inj (fun b hb => hx b (by simp [hb])) (fun b hb => hy b (by simp [hb])) h.2, show x = y by omega]

theorem str_eq : ∀ {xs ys : List Int}, (∀ b ∈ xs, 0 ≤ b ∧ b ≤ 255) → (∀ b ∈ ys, 0 ≤ b ∧ b ≤ 255) → ((strOfNums xs).toList == (strOfNums ys).toList) = decide (xs = ys) := by
  intro xs ys hx hy
  rw [Lib.strOfNums_toList, Lib.strOfNums_toList, Bool.eq_iff_iff]
  simp only [beq_iff_eq, decide_eq_true_eq]
  constructor
  · intro h
    unfold Lib.bytesOf at h
    exact bytes_inj hx hy h
  · rintro rfl; rfl

theorem readB_fit {bs : List Int} (hb : ∀ b ∈ bs, 0 ≤ b ∧ b ≤ 255) (p : Nat) (most : Int) : ∀ b ∈ (readB bs p most).1, 0 ≤ b ∧ b ≤ 255 := by
  intro b h
  unfold readB at h
  split at h
  · split at h
    · cases h
    · split at h
      · cases h
      · exact hb b (List.mem_of_mem_take (List.mem_of_mem_drop h))
  · cases h

theorem drop_step (bs : List Int) (q : Nat) (ops : List S35) (k : Nat) (h : k < ops.length) : backB bs q (ops.drop k) = (backStep bs q ops[k]).bind fun q' => backB bs q' (ops.drop (k + 1)) := by
  rw [List.drop_eq_getElem_cons h]; rfl

set_option maxRecDepth 100000 in
set_option maxHeartbeats 4000000 in
theorem back_any (w0 w : World) (g base : Nat) (v : Value) (bs : List Int) (p : Nat) (A : Option Addr) (c : Nat) (ops : List S35) (hR : ReelIs w g base v bs p) (hC : Kd.C k35 w0 A ops.length ops) (hlc : ops.length ≤ 100) (hfit : ∀ o ∈ ops, OpFits o) (hB : Below w0.heap.size w0 w) (hg : w0.heap.size ≤ g) :
    Calls Try.prog 39 #[.pointer (some ⟨g, 0, none⟩), .slice A ops.length c] w fun e w' => e = .returned (.bool (backB bs p ops).isSome) ∧ (∀ q, backB bs p ops = some q → ReelIs w' g base v bs q) ∧ Fr (fun i => i = g) w w' := by
  have HC := Lib.hid hC
  have HFit := Lib.hid hfit
  have HB := Lib.hid hB
  have HR := Lib.hid hR
  have HG := Lib.hid hg
  obtain ⟨R, hRR⟩ : ∃ R, R = backB bs p ops := ⟨_, rfl⟩
  rw [← hRR]
  have HRR := Lib.hid hRR
  clear hC hfit hB hR hg hRR
  go_enter Try.func39, Try.ntmps39
  go_wp2
  go_loopw [15] (fun i W => ∃ k q : Nat, i = .int .i64 k ∧ k ≤ ops.length ∧ Aside0 (ReelIs W g base v bs q) ∧ Aside0 (R = backB bs q (ops.drop k)) ∧ Aside0 (Fr (fun i => i = g) w W)) (fun i _ => ops.length - (intOf i).toNat)
  case atStart => exact ⟨0, p, rfl, Nat.zero_le _, Aside0.mk HR.out, Aside0.mk HRR.out, Aside0.mk (Fr.refl _ _)⟩
  case round =>
    obtain ⟨k, q, rfl, hk, HRk, HRRk, HFk⟩ := hrel
    by_cases hkl : k < ops.length
    · have hkl' : ((k : Int) < (ops.length : Int)) := by omega
      have hBk : Below w0.heap.size w0 wr := HB.out.trans (HFk.out.below HB.out.size (fun i hi e => by have := HG.out; omega))
      obtain ⟨ad, A5, c5, rfl, hx0, hx1, hx2, hx3, hx4, hx5, hl5, hi5⟩ := at_T35 HC.out (k : Int) (by omega) (by omega)
      have eo : rd_T35 ops (k : Int) = ops[k] := by
        unfold rd_T35
        rw [Int.toNat_natCast, List.getD_eq_getElem?_getD, List.getElem?_eq_getElem hkl]
        rfl
      have hf := HFit.out ops[k] (List.getElem_mem hkl)
      have hst := HRRk.out
      rw [drop_step bs q ops k hkl] at hst
      rw [eo] at hx0 hx1 hx2 hx3 hx4 hx5 hl5 hi5
      clear eo
      replace hx0 := pw_cell_below hBk hx0
      replace hx1 := pw_cell_below hBk hx1
      replace hx2 := pw_cell_below hBk hx2
      replace hx3 := pw_cell_below hBk hx3
      replace hx4 := pw_cell_below hBk hx4
      replace hx5 := pw_cell_below hBk hx5
      generalize ops[k] = o at *
      obtain ⟨f0, f1, f2, f3, f4, f5⟩ := o
      obtain ⟨b0, _, b2, b3, _, b5, bsm⟩ := hf
      simp only at *
      simp only [Int.toNat_natCast] at *
      have HST := Lib.hid hst
      have HI5 := Lib.hid hi5
      have HL5 := Lib.hid hl5
      have HB5 := Lib.hid b5
      have HBK := Lib.hid hBk
      clear hst hi5 hl5 b5 hBk
      have hgl : g < wr.heap.size := blk_lt HRk.out.blk
      have HGL := Lib.hid hgl
      clear hgl
      by_cases h0 : f0 = 0
      · subst h0
        have hN := fun W (h : ReelIs W g base v bs q) => RNumber_any W g base v bs q 18446744073709551615 h
        have hbs : backStep bs q ⟨0, f1, f2, f3, f4, f5⟩ = if (readN (rest bs q) 18446744073709551615).2.1 = 0 ∧ ((readN (rest bs q) 18446744073709551615).1 : Int) = f2 then some (q + (readN (rest bs q) 18446744073709551615).2.2) else none := by unfold backStep; rw [if_pos rfl]
        rw [hbs] at HST
        generalize readN (rest bs q) 18446744073709551615 = r at *
        obtain ⟨rn, rc, rd⟩ := r
        simp only at hN
        have HN := Lib.hid hN
        clear hN hbs
        have hX := World.alloc_heap_new wr (.cells #[.int .i64 0, .int .i64 f1, .int .u64 f2, .int .i64 f3, .int .i64 f4, .slice A5 f5.length c5] 35)
        have HX := Lib.hid hX
        clear hX
        by_cases hc : rc = 0 ∧ (rn : Int) = f2
        · rw [if_pos hc] at HST
          have HS2 : R = backB bs (q + rd) (ops.drop (k + 1)) := HST.out
          have HS3 := Lib.hid HS2
          clear HST HS2
          obtain ⟨rfl, hcf⟩ := hc
          subst hcf
          go_wp2_with (go_at_call 29; (with_reducible refine (HN.out _ (HRk.out.below (below_alloc (Below.refl _ _) _))).mono ?_); rintro e w3 ⟨rfl, hR3, hF3⟩; have y2 := blk_cell ((hF3.block wr.heap.size (by simp) (by have := HGL.out; omega)).trans HX.out) 2; simp only [List.getElem?_toArray, List.getElem?_cons_zero, List.getElem?_cons_succ] at y2; have HR3 := Lib.hid hR3; have HF3 := Lib.hid hF3; clear hR3 hF3)
          refine ⟨⟨k + 1, q + rd, by go_num, by omega, Aside0.mk HR3.out, Aside0.mk HS3.out, Aside0.mk ((HFk.out.alloc _).trans HF3.out (fun _ _ h => h))⟩, ?_⟩
          show ops.length - ((k : Int) + 1).toNat < ops.length - (k : Int).toNat
          omega
        · rw [if_neg hc] at HST
          obtain rfl : R = none := HST.out
          by_cases hrc : rc = 0
          · subst hrc
            have hne : ((rn : Int) != f2) = true := by simpa using hc
            clear hc
            go_wp2_with (go_at_call 29; (with_reducible refine (HN.out _ (HRk.out.below (below_alloc (Below.refl _ _) _))).mono ?_); rintro e w3 ⟨rfl, hR3, hF3⟩; have y2 := blk_cell ((hF3.block wr.heap.size (by simp) (by have := HGL.out; omega)).trans HX.out) 2; simp only [List.getElem?_toArray, List.getElem?_cons_zero, List.getElem?_cons_succ] at y2; have HR3 := Lib.hid hR3; have HF3 := Lib.hid hF3; clear hR3 hF3)
            go_ret
            exact ⟨rfl, fun _ h => by simp at h, (HFk.out.alloc _).trans HF3.out (fun _ _ h => h)⟩
          · have hne : ((rc : Int) != 0) = true := by simp; omega
            clear hc
            go_wp2_with (go_at_call 29; (with_reducible refine (HN.out _ (HRk.out.below (below_alloc (Below.refl _ _) _))).mono ?_); rintro e w3 ⟨rfl, hR3, hF3⟩; have HR3 := Lib.hid hR3; have HF3 := Lib.hid hF3; clear hR3 hF3)
            go_ret
            exact ⟨rfl, fun _ h => by simp at h, (HFk.out.alloc _).trans HF3.out (fun _ _ h => h)⟩
      · by_cases h1 : f0 = 1
        · subst h1
          have hN := fun W (h : ReelIs W g base v bs q) => RSigned_any W g base v bs q (-9223372036854775808) 9223372036854775807 h
          have hbs : backStep bs q ⟨1, f1, f2, f3, f4, f5⟩ = if (readS (rest bs q) (-9223372036854775808) 9223372036854775807).2.1 = 0 ∧ (readS (rest bs q) (-9223372036854775808) 9223372036854775807).1 = f3 then some (q + (readS (rest bs q) (-9223372036854775808) 9223372036854775807).2.2) else none := by unfold backStep; rw [if_neg (by simp), if_pos rfl]
          rw [hbs] at HST
          generalize readS (rest bs q) (-9223372036854775808) 9223372036854775807 = r at *
          obtain ⟨rn, rc, rd⟩ := r
          simp only at hN
          have HN := Lib.hid hN
          clear hN hbs
          have hX := World.alloc_heap_new wr (.cells #[.int .i64 1, .int .i64 f1, .int .u64 f2, .int .i64 f3, .int .i64 f4, .slice A5 f5.length c5] 35)
          have HX := Lib.hid hX
          clear hX
          by_cases hc : rc = 0 ∧ rn = f3
          · rw [if_pos hc] at HST
            have HS2 : R = backB bs (q + rd) (ops.drop (k + 1)) := HST.out
            have HS3 := Lib.hid HS2
            clear HST HS2
            obtain ⟨rfl, hcf⟩ := hc
            subst hcf
            go_wp2_with (go_at_call 30; (with_reducible refine (HN.out _ (HRk.out.below (below_alloc (Below.refl _ _) _))).mono ?_); rintro e w3 ⟨rfl, hR3, hF3⟩; have y2 := blk_cell ((hF3.block wr.heap.size (by simp) (by have := HGL.out; omega)).trans HX.out) 3; simp only [List.getElem?_toArray, List.getElem?_cons_zero, List.getElem?_cons_succ] at y2; have HR3 := Lib.hid hR3; have HF3 := Lib.hid hF3; clear hR3 hF3)
            refine ⟨⟨k + 1, q + rd, by go_num, by omega, Aside0.mk HR3.out, Aside0.mk HS3.out, Aside0.mk ((HFk.out.alloc _).trans HF3.out (fun _ _ h => h))⟩, ?_⟩
            show ops.length - ((k : Int) + 1).toNat < ops.length - (k : Int).toNat
            omega
          · rw [if_neg hc] at HST
            obtain rfl : R = none := HST.out
            by_cases hrc : rc = 0
            · subst hrc
              have hne : (rn != f3) = true := by simpa using hc
              clear hc
              go_wp2_with (go_at_call 30; (with_reducible refine (HN.out _ (HRk.out.below (below_alloc (Below.refl _ _) _))).mono ?_); rintro e w3 ⟨rfl, hR3, hF3⟩; have y2 := blk_cell ((hF3.block wr.heap.size (by simp) (by have := HGL.out; omega)).trans HX.out) 3; simp only [List.getElem?_toArray, List.getElem?_cons_zero, List.getElem?_cons_succ] at y2; have HR3 := Lib.hid hR3; have HF3 := Lib.hid hF3; clear hR3 hF3)
              go_ret
              exact ⟨rfl, fun _ h => by simp at h, (HFk.out.alloc _).trans HF3.out (fun _ _ h => h)⟩
            · have hne : ((rc : Int) != 0) = true := by simp; omega
              clear hc
              go_wp2_with (go_at_call 30; (with_reducible refine (HN.out _ (HRk.out.below (below_alloc (Below.refl _ _) _))).mono ?_); rintro e w3 ⟨rfl, hR3, hF3⟩; have HR3 := Lib.hid hR3; have HF3 := Lib.hid hF3; clear hR3 hF3)
              go_ret
              exact ⟨rfl, fun _ h => by simp at h, (HFk.out.alloc _).trans HF3.out (fun _ _ h => h)⟩
        · by_cases h2 : f0 = 2
          · subst h2
            have hN := fun W (h : ReelIs W g base v bs q) => RBytes_any W g base v bs q f5.length h (by omega) (by omega)
            have hbs : backStep bs q ⟨2, f1, f2, f3, f4, f5⟩ = if (readB bs q f5.length).2.1 = 0 ∧ (readB bs q f5.length).1 = f5 then some (q + (readB bs q f5.length).2.2) else none := by unfold backStep; rw [if_neg (by simp), if_neg (by simp), if_pos rfl]
            rw [hbs] at HST
            have hrb := readB_fit HRk.out.bytes q f5.length
            generalize readB bs q f5.length = r at *
            obtain ⟨rb, rc, rd⟩ := r
            simp only at hN hrb
            have HN := Lib.hid hN
            have HSE := Lib.hid (str_eq hrb HB5.out)
            clear hN hbs hrb
            have hX := World.alloc_heap_new wr (.cells #[.int .i64 2, .int .i64 f1, .int .u64 f2, .int .i64 f3, .int .i64 f4, .slice A5 f5.length c5] 35)
            have HX := Lib.hid hX
            clear hX
            by_cases hc : rc = 0 ∧ rb = f5
            · rw [if_pos hc] at HST
              have HS2 : R = backB bs (q + rd) (ops.drop (k + 1)) := HST.out
              have HS3 := Lib.hid HS2
              clear HST HS2
              obtain ⟨rfl, hcf⟩ := hc
              have hcf := hcf.symm
              subst hcf
              go_wp2_with (go_at_call 33; (with_reducible refine (HN.out _ (HRk.out.below (below_alloc (Below.refl _ _) _))).mono ?_); rintro e w3 ⟨u, rfl, ho3, hR3, hF3⟩; have y5 := blk_cell ((hF3.block wr.heap.size (by simp) (by have := HGL.out; omega)).trans HX.out) 5; simp only [List.getElem?_toArray, List.getElem?_cons_zero, List.getElem?_cons_succ] at y5; obtain ⟨A7, c7, rfl⟩ := own_slice ho3; have hcv1 := string_read (c := c7) (row_C ho3).2.2; have hFT := (HFk.out.alloc (.cells #[.int .i64 2, .int .i64 f1, .int .u64 f2, .int .i64 f3, .int .i64 f4, .slice A5 f5.length c5] 35)).trans hF3 (fun _ _ h => h); have hcv2 := string_read (c := c5) (Kd.C_below HI5.out (HB.out.trans (hFT.below HB.out.size (fun i hi e => by have := HG.out; omega)))); have HR3 := Lib.hid hR3; have HFT := Lib.hid hFT; clear hR3 hF3 ho3 hFT)
              refine ⟨⟨k + 1, q + rd, by go_num, by omega, Aside0.mk HR3.out, Aside0.mk HS3.out, Aside0.mk HFT.out⟩, ?_⟩
              show ops.length - ((k : Int) + 1).toNat < ops.length - (k : Int).toNat
              omega
            · rw [if_neg hc] at HST
              obtain rfl : R = none := HST.out
              by_cases hrc : rc = 0
              · subst hrc
                have hne : ((strOfNums rb).toList == (strOfNums f5).toList) = false := by rw [HSE.out]; simpa using hc
                clear hc
                go_wp2_with (go_at_call 33; (with_reducible refine (HN.out _ (HRk.out.below (below_alloc (Below.refl _ _) _))).mono ?_); rintro e w3 ⟨u, rfl, ho3, hR3, hF3⟩; have y5 := blk_cell ((hF3.block wr.heap.size (by simp) (by have := HGL.out; omega)).trans HX.out) 5; simp only [List.getElem?_toArray, List.getElem?_cons_zero, List.getElem?_cons_succ] at y5; obtain ⟨A7, c7, rfl⟩ := own_slice ho3; have hcv1 := string_read (c := c7) (row_C ho3).2.2; have hFT := (HFk.out.alloc (.cells #[.int .i64 2, .int .i64 f1, .int .u64 f2, .int .i64 f3, .int .i64 f4, .slice A5 f5.length c5] 35)).trans hF3 (fun _ _ h => h); have hcv2 := string_read (c := c5) (Kd.C_below HI5.out (HB.out.trans (hFT.below HB.out.size (fun i hi e => by have := HG.out; omega)))); have HR3 := Lib.hid hR3; have HFT := Lib.hid hFT; clear hR3 hF3 ho3 hFT)
                go_ret
                exact ⟨rfl, fun _ h => by simp at h, HFT.out⟩
              · have hne : ((rc : Int) != 0) = true := by simp; omega
                clear hc
                go_wp2_with (go_at_call 33; (with_reducible refine (HN.out _ (HRk.out.below (below_alloc (Below.refl _ _) _))).mono ?_); rintro e w3 ⟨u, rfl, ho3, hR3, hF3⟩; have y5 := blk_cell ((hF3.block wr.heap.size (by simp) (by have := HGL.out; omega)).trans HX.out) 5; simp only [List.getElem?_toArray, List.getElem?_cons_zero, List.getElem?_cons_succ] at y5; obtain ⟨A7, c7, rfl⟩ := own_slice ho3; have hcv1 := string_read (c := c7) (row_C ho3).2.2; have hFT := (HFk.out.alloc (.cells #[.int .i64 2, .int .i64 f1, .int .u64 f2, .int .i64 f3, .int .i64 f4, .slice A5 f5.length c5] 35)).trans hF3 (fun _ _ h => h); have hcv2 := string_read (c := c5) (Kd.C_below HI5.out (HB.out.trans (hFT.below HB.out.size (fun i hi e => by have := HG.out; omega)))); have HR3 := Lib.hid hR3; have HFT := Lib.hid hFT; clear hR3 hF3 ho3 hFT)
                go_ret
                exact ⟨rfl, fun _ h => by simp at h, HFT.out⟩
          · have hbs : backStep bs q ⟨f0, f1, f2, f3, f4, f5⟩ = some q := by unfold backStep; rw [if_neg h0, if_neg h1, if_neg h2]
            rw [hbs] at HST
            have HS2 : R = backB bs q (ops.drop (k + 1)) := HST.out
            have HS3 := Lib.hid HS2
            clear HST HS2 hbs
            go_wp2
            refine ⟨⟨k + 1, q, by go_num, by omega, Aside0.mk (HRk.out.below (below_alloc (Below.refl _ _) _)), Aside0.mk HS3.out, Aside0.mk (HFk.out.alloc _)⟩, ?_⟩
            show ops.length - ((k : Int) + 1).toNat < ops.length - (k : Int).toNat
            omega
    · obtain rfl : k = ops.length := by omega
      have hRR := HRRk.out
      rw [List.drop_length] at hRR
      subst hRR
      go_wp2
      go_ret
      exact ⟨rfl, fun q' h => by cases h; exact HRk.out, HFk.out⟩

end Go.Proofs.Ytpiainanlmpieaa
