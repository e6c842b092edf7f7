/- VaryBack's walk. -/
import Derived.Test.YtpiainanlmpieaaVm
namespace Go.Proofs.Ytpiainanlmpieaa
open Go.RowKit Go.Shelf Go.Proofs.YtpiainanlmpieaaW.PrintWords Go.Proofs.YtpiainanlmpieaaW.PrintLast Go.Proofs.YtpiainanlmpieaaW.PrintMore
open Go.Proofs.Ytpiainanlmpieaa.Pgreat

set_option maxRecDepth 100000 in
set_option maxHeartbeats 2000000 in
theorem TBytes_gen (w : World) (g base : Nat) (v0 : Value) (xs : List Int) (A : Option Addr) (c : Nat) (bs : List Int) (hT : TapeIs w g base v0 xs) (hbase : base ≤ w.heap.size) (hlen : xs.length + bs.length + 9 ≤ 140737488355328)
    (hbs : ∀ w1, Fr (fun i => i = g ∨ v0.ownBlock = some i) w w1 → (Kd.int .u8).C w1 A bs.length bs) :
    Calls Try.prog 25 #[.pointer (some ⟨g, 0, none⟩), .slice A bs.length c] w fun e w' => e = .returned (.pointer (some ⟨g, 0, none⟩)) ∧
      (∃ v, TapeIs w' g base v (xs ++ encI bs.length ++ bs) ∧ (v.ownBlock = v0.ownBlock ∨ ∃ b, v.ownBlock = some b ∧ w.heap.size ≤ b)) ∧ Fr (fun i => i = g ∨ v0.ownBlock = some i) w w' := by
  have hl : (bs.length : Int) < 140737488355328 := by omega
  have hglt : g < w.heap.size := blk_lt hT.blk
  have h9 := VP.wid_pos bs.length
  go_enter Try.func25, Try.ntmps25
  go_wp2_with fail
  refine (TNumber_any w g base bs.length v0 xs (by omega) hT hbase (by omega)).mono ?_
  rintro e w1 ⟨rfl, ⟨v1, hT1, hv1⟩, hF1⟩
  have hbs1 : (Kd.int .u8).C w1 A bs.length bs := hbs w1 hF1
  have hc1 : w1.cell? ⟨g, 0, none⟩ = some v1 := blk_cell hT1.blk 0
  clear hbs hl
  have HL := Lib.hid hlen
  have H9 := Lib.hid h9
  clear hlen h9
  have hlen2 : (xs ++ encI bs.length).length + bs.length ≤ 140737488355328 := by have := HL.out; have := H9.out; rw [List.length_append, encI_length]; omega
  have HL2 := Lib.hid hlen2
  have HR := Aside0.mk hbs1
  have HT := Aside0.mk hT1
  have HV := Aside0.mk hv1
  clear hlen2 hbs1 hT1 hv1
  go_wp2_with ((with_reducible refine gate_builtin (b := .append) (xs := #[.tmp 15, .tmp 16]) rfl ?_); at_builtin; refine Kd.R_append_rows (Kd.int .u8) (w0 := w1) (Rr := fun x cs => cs = [Value.int .u8 x]) base rfl (.tmp 15) (.tmp 16) 30 5 (.int .u8 0) 1 rfl Try.underlying30 info5 rfl (by decide) (by omega) v1 (xs ++ encI bs.length) bs A bs.length c (fun _ => True) (fun _ => False) rfl rfl (Kd.R_of_own HT.out.own (fun _ _ => trivial)) HR.out (fun _ _ h => h) (fun _ h => h.elim) (fun _ _ => trivial) (Below.refl _ _) (Nat.le_trans hbase hF1.size) (by have := HL2.out; omega) ?_; intro v2 w2 hR2 hB2 hgrow hat; have e4 : w2.heap[g]? = some (.cells #[v1] 32 (0, 0)) := (hgrow.block g (blk_lt HT.out.blk) (Ne.symm HT.out.ne)).trans HT.out.blk; have hc4 : w2.cell? ⟨g, 0, none⟩ = some v1 := blk_cell e4 0; have hf4 : w2.frozen? ⟨g, 0, none⟩ = false := blk_frozen e4 0; obtain ⟨A2, c2, rfl⟩ := Kd.R_slice hR2)
  have hv1 := HV.out
  go_ret
  have ho := Kd.own_of_R hR2
  have hne2 : some g ≠ (Value.slice A2 (xs ++ encI bs.length ++ bs).length c2).ownBlock := own_ne ho e4 (by decide)
  refine ⟨rfl, ⟨_, ⟨?_, own_setCell ho hne2 _⟩, ?_⟩, ?_⟩
  · have := blk_set e4 0 (.slice A2 (xs ++ encI bs.length ++ bs).length c2); simpa using this
  · rcases hat with h | ⟨b, h, hb⟩
    · rw [h]; exact hv1
    · exact .inr ⟨b, h, by have := hF1.size; omega⟩
  · refine Fr.set ?_ _ _ (fun _ => .inl rfl)
    refine hF1.trans (Fr.grown (S := fun i => v1.ownBlock = some i) hgrow (fun i _ e => e)) (fun i hi e => ?_)
    rcases hv1 with h | ⟨b, h, hb⟩
    · exact .inr (by rw [← h]; exact e)
    · rw [h] at e; cases e; omega

theorem tape_below {w1 w2 w3 : World} {vt : Value} {xs : List Int} (h : Below w1.heap.size w1 w2) (hT : TapeIs w2 w1.heap.size w1.heap.size vt xs) (hF : Fr (fun i => i = w1.heap.size ∨ vt.ownBlock = some i) w2 w3) : Below w1.heap.size w1 w3 := by
  refine h.trans (hF.below h.size (fun i hi hS => ?_))
  rcases hS with rfl | hS
  · omega
  · have := (World.ownsRow.lt hT.own i hS).1; omega

set_option maxRecDepth 100000 in
set_option maxHeartbeats 4000000 in
theorem back_walk (A : Option Addr) (c : Nat) (ops : List S35) (cut : Int) (w : World) (hC : Kd.C k35 w A ops.length ops) (hlc : ops.length ≤ c) (hcm : c ≤ 9223372036854775807) (hfit : ∀ o ∈ ops, OpFits o) (hcut : 0 ≤ cut ∧ cut ≤ 65535) :
    Calls Try.prog 8 #[.slice A ops.length c, .int .u16 cut] w fun e w' => e = .returned (.bool true) ∧ Below w.heap.size w w' := by
  have HC := Lib.hid hC
  have HFit := Lib.hid hfit
  clear hC hfit
  by_cases hg : tooGreat ops = true
  · go_enter Try.func8, Try.ntmps8
    go_wp2_with (first | (go_at_call 10; refine (alive_any _).mono ?_; rintro e v1 ⟨rfl, hb1⟩) | (go_at_call 14; (with_reducible refine (great_any A c ops _ (Kd.C_below HC.out hb1) hlc hcm HFit.out).mono ?_); rintro e w1 ⟨rfl, m1, rfl⟩; rw [hg]))
    go_ret
    exact ⟨rfl, pw_below_drewN hb1 _⟩
  · have hg : tooGreat ops = false := by simpa using hg
    obtain ⟨hl, hsum⟩ := tooGreat_no hg
    have hbl := opsBytes_length ops
    have hsmall : (opsBytes ops).length ≤ 20900 := by omega
    have HSM := Lib.hid hsmall
    clear hsum hbl hsmall
    go_enter Try.func8, Try.ntmps8
    go_wp2_with (first | (go_at_call 10; refine (alive_any _).mono ?_; rintro e v1 ⟨rfl, hb1⟩) | (go_at_call 14; (with_reducible refine (great_any A c ops _ (Kd.C_below HC.out hb1) hlc hcm HFit.out).mono ?_); rintro e w1 ⟨rfl, m1, rfl⟩; rw [hg]))
    have hC1 := Lib.hid (Kd.C_below HC.out (pw_below_drewN hb1 m1))
    have hB1 := Lib.hid (pw_below_drewN hb1 m1)
    clear hb1
    generalize hw1 : v1.drewN m1 = w1 at *
    have hsz : v1.heap.size = w1.heap.size := by rw [← hw1]; simp
    clear hw1
    rw [hsz]
    clear hsz
    have hT0 : TapeIs (w1.alloc (.cells #[.slice none 0 0] 32)) w1.heap.size w1.heap.size (.slice none 0 0) [] := ⟨World.alloc_heap_new _ _, World.ownsRow_nil _ _ _ _⟩
    have HT0 := Lib.hid hT0
    clear hT0
    go_loopw [21] (fun i W => ∃ (k : Nat) (vt : Value) (xs : List Int), i = .int .i64 k ∧ k ≤ ops.length ∧ Aside0 (TapeIs W w1.heap.size w1.heap.size vt xs) ∧ Aside0 (Below w1.heap.size w1 W) ∧ Aside0 (xs ++ opsBytes (ops.drop k) = opsBytes ops)) (fun i _ => ops.length - (intOf i).toNat)
    case atStart => exact ⟨0, _, [], rfl, Nat.zero_le _, Aside0.mk HT0.out, Aside0.mk (below_alloc (Below.refl _ _) _), Aside0.mk rfl⟩
    case round =>
      clear HT0
      obtain ⟨k, vt, xs, rfl, hk, HT, HB, HX⟩ := hrel
      have hlx : xs.length + (opsBytes (ops.drop k)).length ≤ 20900 := by
        have h1 := congrArg List.length HX.out
        have h2 := HSM.out
        rw [List.length_append] at h1
        omega
      by_cases hkl : k < ops.length
      · have hkl' : ((k : Int) < (ops.length : Int)) := by omega
        obtain ⟨ad, A5, c5, rfl, hx0, hx1, hx2, hx3, hx4, hx5, hl5, hi5⟩ := at_T35 hC1.out (k : Int) (by omega) (by omega)
        have eo : rd_T35 ops (k : Int) = ops[k] := by
          unfold rd_T35
          rw [Int.toNat_natCast, List.getD_eq_getElem?_getD, List.getElem?_eq_getElem hkl]
          rfl
        have hf := HFit.out ops[k] (List.getElem_mem hkl)
        have hcx := HX.out
        rw [List.drop_eq_getElem_cons hkl] at hcx hlx
        rw [eo] at hx0 hx1 hx2 hx3 hx4 hx5 hl5 hi5
        clear eo
        replace hx0 := pw_cell_below HB.out hx0
        replace hx1 := pw_cell_below HB.out hx1
        replace hx2 := pw_cell_below HB.out hx2
        replace hx3 := pw_cell_below HB.out hx3
        replace hx4 := pw_cell_below HB.out hx4
        replace hx5 := pw_cell_below HB.out hx5
        generalize ops[k] = o at *
        obtain ⟨f0, f1, f2, f3, f4, f5⟩ := o
        obtain ⟨b0, _, b2, b3, _, b5, bsm⟩ := hf
        simp only [opsBytes, List.length_append] at hcx hlx
        rw [← List.append_assoc] at hcx
        simp only at *
        obtain ⟨n, rfl⟩ := Int.eq_ofNat_of_zero_le b2.1
        simp only [Int.toNat_natCast] at *
        have HCX := Lib.hid hcx
        have HLX := Lib.hid hlx
        have HI5 := Lib.hid hi5
        have HL5 := Lib.hid hl5
        have HB3 := Lib.hid b3
        have hn2 : n < 18446744073709551616 := by omega
        have HNn := Lib.hid hn2
        have hxl : xs.length ≤ 20900 := by omega
        have HXL := Lib.hid hxl
        clear hcx hlx hi5 hl5 b3 b5 hn2 hxl b2
        by_cases h0 : f0 = 0
        · subst h0
          have hX := World.alloc_heap_new wr (.cells #[.int .i64 0, .int .i64 f1, .int .u64 n, .int .i64 f3, .int .i64 f4, .slice A5 f5.length c5] 35)
          have hF0 : Fr (fun _ => False) wr (wr.alloc (.cells #[.int .i64 0, .int .i64 f1, .int .u64 n, .int .i64 f3, .int .i64 f4, .slice A5 f5.length c5] 35)) := (Fr.refl _ _).alloc _
          have HT2 := Lib.hid (HT.out.fr hF0 (fun h => h) (fun _ _ h => h))
          have HB2 := Lib.hid (below_then HB.out HB.out.size (below_alloc (Below.refl _ wr) (.cells #[.int .i64 0, .int .i64 f1, .int .u64 n, .int .i64 f3, .int .i64 f4, .slice A5 f5.length c5] 35)))
          go_wp2_with (go_at_call 22; (with_reducible refine (TNumber_any _ w1.heap.size w1.heap.size n vt xs HNn.out HT2.out HB2.out.size (by have := HXL.out; omega)).mono ?_); rintro e w3 ⟨rfl, ⟨vt2, hT3, hv3⟩, hF3⟩; have HT3 := Lib.hid hT3; have HF3 := Lib.hid hF3; clear hT3 hv3 hF3)
          refine ⟨⟨k + 1, vt2, _, by go_num, by omega, Aside0.mk HT3.out, Aside0.mk (tape_below HB2.out HT2.out HF3.out), Aside0.mk (by exact HCX.out)⟩, ?_⟩
          show ops.length - ((k : Int) + 1).toNat < ops.length - (k : Int).toNat
          omega
        · by_cases h1 : f0 = 1
          · subst h1
            have hX := World.alloc_heap_new wr (.cells #[.int .i64 1, .int .i64 f1, .int .u64 n, .int .i64 f3, .int .i64 f4, .slice A5 f5.length c5] 35)
            have hF0 : Fr (fun _ => False) wr (wr.alloc (.cells #[.int .i64 1, .int .i64 f1, .int .u64 n, .int .i64 f3, .int .i64 f4, .slice A5 f5.length c5] 35)) := (Fr.refl _ _).alloc _
            have HT2 := Lib.hid (HT.out.fr hF0 (fun h => h) (fun _ _ h => h))
            have HB2 := Lib.hid (below_then HB.out HB.out.size (below_alloc (Below.refl _ wr) (.cells #[.int .i64 1, .int .i64 f1, .int .u64 n, .int .i64 f3, .int .i64 f4, .slice A5 f5.length c5] 35)))
            go_wp2_with (go_at_call 23; (with_reducible refine (TSigned_any _ w1.heap.size w1.heap.size f3 HB3.out.1 HB3.out.2 vt xs HT2.out HB2.out.size (by have := HXL.out; omega)).mono ?_); rintro e w3 ⟨rfl, ⟨vt2, hT3, hv3⟩, hF3⟩; have HT3 := Lib.hid hT3; have HF3 := Lib.hid hF3; clear hT3 hv3 hF3)
            refine ⟨⟨k + 1, vt2, _, by go_num, by omega, Aside0.mk HT3.out, Aside0.mk (tape_below HB2.out HT2.out HF3.out), Aside0.mk (by exact HCX.out)⟩, ?_⟩
            show ops.length - ((k : Int) + 1).toNat < ops.length - (k : Int).toNat
            omega
          · by_cases h2 : f0 = 2
            · subst h2
              have ho : opBytes ⟨2, f1, n, f3, f4, f5⟩ = encI f5.length ++ f5 := by unfold opBytes; rw [if_neg (by simp), if_neg (by simp), if_pos rfl]
              have hl2 : xs.length + f5.length + 9 ≤ 140737488355328 := by
                have h := HLX.out
                rw [ho, List.length_append] at h
                omega
              have HOP := Lib.hid ho
              clear ho
              have HL2 := Lib.hid hl2
              clear hl2
              have hX := World.alloc_heap_new wr (.cells #[.int .i64 2, .int .i64 f1, .int .u64 n, .int .i64 f3, .int .i64 f4, .slice A5 f5.length c5] 35)
              have hF0 : Fr (fun _ => False) wr (wr.alloc (.cells #[.int .i64 2, .int .i64 f1, .int .u64 n, .int .i64 f3, .int .i64 f4, .slice A5 f5.length c5] 35)) := (Fr.refl _ _).alloc _
              have HT2 := Lib.hid (HT.out.fr hF0 (fun h => h) (fun _ _ h => h))
              have HB2 := Lib.hid (below_then HB.out HB.out.size (below_alloc (Below.refl _ wr) (.cells #[.int .i64 2, .int .i64 f1, .int .u64 n, .int .i64 f3, .int .i64 f4, .slice A5 f5.length c5] 35)))
              go_wp2_with (go_at_call 25; (with_reducible refine (TBytes_gen _ w1.heap.size w1.heap.size vt xs A5 c5 f5 HT2.out HB2.out.size HL2.out (fun w3 hF => Kd.C_below HI5.out (tape_below HB2.out HT2.out hF))).mono ?_); rintro e w3 ⟨rfl, ⟨vt2, hT3, hv3⟩, hF3⟩; have HT3 := Lib.hid hT3; have HF3 := Lib.hid hF3; clear hT3 hv3 hF3)
              refine ⟨⟨k + 1, vt2, _, by go_num, by omega, Aside0.mk HT3.out, Aside0.mk (tape_below HB2.out HT2.out HF3.out), Aside0.mk (by have h := HCX.out; rw [HOP.out, ← List.append_assoc] at h; exact h)⟩, ?_⟩
              show ops.length - ((k : Int) + 1).toNat < ops.length - (k : Int).toNat
              omega
            · have ho : opBytes ⟨f0, f1, n, f3, f4, f5⟩ = [] := by unfold opBytes; rw [if_neg h0, if_neg h1, if_neg h2]
              rw [ho, List.append_nil] at HCX
              go_wp2
              refine ⟨⟨k + 1, vt, xs, by go_num, by omega, Aside0.mk (HT.out.fr ((Fr.refl (fun _ => False) _).alloc _) (fun h => h) (fun _ _ h => h)), Aside0.mk (below_then HB.out HB.out.size (below_alloc (Below.refl _ wr) _)), Aside0.mk HCX.out⟩, ?_⟩
              show ops.length - ((k : Int) + 1).toNat < ops.length - (k : Int).toNat
              omega
      · obtain rfl : k = ops.length := by omega
        have hx := HX.out
        rw [List.drop_length] at hx
        simp only [opsBytes, List.append_nil] at hx
        subst hx
        have hfit := opsBytes_fit HFit.out
        have hba := back_all ops HFit.out
        have hbc := back_cut ops HFit.out
        have HXF := Lib.hid hfit
        have HBA := Lib.hid hba
        have HBC := Lib.hid hbc
        have hxl : (opsBytes ops).length ≤ 140737488355328 := by have := HSM.out; omega
        have HXL := Lib.hid hxl
        clear hfit hba hbc hxl hlx
        generalize opsBytes ops = xs at *
        have hb0 : ∀ b0 : Nat, b0 ≤ wr.heap.size → b0 ≤ wr.heap.size := fun _ h => h
        clear hb0
        go_wp2_with fail
        refine (TAll_any _ w1.heap.size w1.heap.size vt xs HT.out HXL.out).mono ?_
        rintro e w6 ⟨u, rfl, ho6, hb6⟩
        obtain ⟨A9, c9, rfl⟩ := own_slice ho6
        have HB6 := Lib.hid (below_then HB.out HB.out.size hb6)
        have HO6 := Lib.hid ho6
        clear hb6 ho6
        go_wp2_with fail
        refine (On_any A9 c9 xs w6 (row_C HO6.out).2.2 HXL.out HXF.out).mono ?_
        rintro e w7 ⟨g2, rv, rfl, hg2, hR7, hb7⟩
        have HB7 := Lib.hid (below_then HB6.out HB6.out.size hb7)
        have HR7 := Lib.hid hR7
        have HO7 := Lib.hid (pw_own_below HO6.out hb7)
        have HG2 := Lib.hid hg2
        clear hR7 hb7 hg2
        go_wp2_with fail
        refine (back_any w1 w7 g2 _ rv xs 0 A c ops HR7.out hC1.out hl HFit.out HB7.out (by have := HG2.out; have := HB6.out.size; omega)).mono ?_
        rintro e w8 ⟨rfl, hR8, hF8⟩
        rw [HBA.out] at hR8 ⊢
        have HR8 := Lib.hid (hR8 _ rfl)
        have hb8 : Below w1.heap.size w1 w8 := HB7.out.trans (hF8.below HB7.out.size (fun i hi e => by have := HG2.out; have := HB6.out.size; omega))
        have HB8 := Lib.hid hb8
        have HO8 := Lib.hid (own_fr HO7.out hF8 (fun b hb e => by have := (World.ownsRow.lt HO6.out b hb).2; have := HG2.out; omega))
        clear hR8 hF8 hb8
        have hEnd := fun W (h : ReelIs W g2 w6.heap.size rv xs xs.length) => End_any W g2 _ rv xs xs.length h
        simp only [Nat.lt_irrefl, if_false] at hEnd
        have HEnd := Lib.hid hEnd
        clear hEnd
        obtain ⟨cn, rfl⟩ := Int.eq_ofNat_of_zero_le hcut.1
        have hxs47 := HXL.out
        by_cases hz : xs.length = 0
        · have hz' : ((xs.length : Int) == 0) = true := by simp [hz]
          go_wp2_with (first | (go_at_call 37; (with_reducible refine (HEnd.out _ HR8.out).mono ?_); rintro e w9 ⟨rfl, hb9⟩; have HR9 := Lib.hid (HR8.out.below hb9); have HB9 := Lib.hid (below_then HB8.out HB8.out.size hb9); have HO9 := Lib.hid (pw_own_below HO8.out hb9); clear hb9) | (go_at_call 28; (with_reducible refine (At_any _ _ _ _ _ _ HR9.out).mono ?_); rintro e w' ⟨rfl, rfl⟩))
          go_ret
          exact ⟨rfl, below_step hB1.out HB9.out⟩
        · have hz' : ((xs.length : Int) == 0) = false := by rw [beq_eq_false_iff_ne]; omega
          obtain ⟨t, ht⟩ : ∃ t, t = cn % xs.length := ⟨_, rfl⟩
          have htl : t < xs.length := by rw [ht]; exact Nat.mod_lt _ (by omega)
          have hrem : ((cn : Int)) % ((xs.length : Nat) : Int) = (t : Int) := by rw [ht]; simp
          have hrem2 : Int.tmod (cn : Int) ((xs.length : Nat) : Int) = (t : Int) := by rw [Int.tmod_eq_emod_of_nonneg (by omega)]; exact hrem
          obtain ⟨i0, hi0, hz0, hz1, hz2⟩ := info_parts info5
          have hct := cut_to 30 5 .i64 Try.underlying30 hi0 A9 xs.length c9 (t : Int) (by omega) (by omega) (row_C HO8.out).2.1
          rw [Int.toNat_natCast] at hct
          clear ht
          go_wp2_with (first | (go_at_call 37; (with_reducible refine (HEnd.out _ HR8.out).mono ?_); rintro e w9 ⟨rfl, hb9⟩; have HR9 := Lib.hid (HR8.out.below hb9); have HB9 := Lib.hid (below_then HB8.out HB8.out.size hb9); have HO9 := Lib.hid (pw_own_below HO8.out hb9); clear hb9) | (go_at_call 28; (with_reducible refine (At_any _ _ _ _ _ _ HR9.out).mono ?_); rintro e w' ⟨rfl, rfl⟩))
          have hlt : (xs.take t).length = t := by rw [List.length_take]; omega
          have hon := On_any A9 c9 (xs.take t) w9 (Kd.C_take (row_C HO9.out).2.2 (by omega)) (by omega) (fun b hb => HXF.out b (List.mem_of_mem_take hb))
          rw [hlt] at hon
          refine hon.mono ?_
          rintro e w10 ⟨g3, rv3, rfl, hg3, hR10, hb10⟩
          have HB10 := Lib.hid (below_then HB9.out HB9.out.size hb10)
          have HR10 := Lib.hid hR10
          have HG3 := Lib.hid hg3
          clear hR10 hb10 hon hg3 hct
          go_wp2_with fail
          refine (back_any w1 w10 g3 _ rv3 (xs.take t) 0 A c ops HR10.out hC1.out hl HFit.out HB10.out (by have := HG3.out; have := HB9.out.size; omega)).mono ?_
          rintro e w11 ⟨rfl, _, hF11⟩
          rw [HBC.out t htl]
          have hb11 : Below w1.heap.size w1 w11 := HB10.out.trans (hF11.below HB10.out.size (fun i hi e => by have := HG3.out; have := HB9.out.size; omega))
          have HB11 := Lib.hid hb11
          clear hb11 hF11
          go_wp2
          go_ret
          exact ⟨rfl, below_step hB1.out HB11.out⟩
end Go.Proofs.Ytpiainanlmpieaa
