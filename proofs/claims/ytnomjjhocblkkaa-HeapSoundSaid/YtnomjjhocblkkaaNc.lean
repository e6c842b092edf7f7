/- HeapSound's walk. -/
import Derived.Test.YtnomjjhocblkkaaNb
import Derived.Test.YtnomjjhocblkkaaMc
namespace Go.Proofs.Ytnomjjhocblkkaa
open Go.RowKit Go.Shelf Go.Proofs.YtnomjjhocblkkaaW.PrintWords Go.Proofs.YtnomjjhocblkkaaW.PrintLast Go.Proofs.YtnomjjhocblkkaaW.PrintMore
open Go.Proofs.Ytnomjjhocblkkaa.PHeapSound

theorem info3 : (Try.prog.info? 3).map (fun i => (i.zero, i.size, i.bytes)) = some (some (.int .i64 0), 1, 8) := hinfo3
/-- A row of the call's own lies apart from the heap's blocks. -/
theorem R_fr {α : Type} {d : Kd α} {e base : Nat} {W W' : World} {ok : Nat → Prop} {v : Value} {xs : List α} {S : Nat → Prop} (h : d.R e W base ok v xs) (hF : Fr S W W') (hS : ∀ k, ok k → ¬ S k) : d.R e W' base ok v xs :=
  Kd.R_step h (fun k ho hk => hF.block k hk (hS k ho))
def Far (g m : Nat) (R : Nat → Prop) (k : Nat) : Prop := k ≠ g ∧ k ≠ m ∧ ¬ R k
theorem R_far_make {α : Type} {d : Kd α} {e base : Nat} {W W' : World} {g m : Nat} {R R' : Nat → Prop} {v : Value} {xs : List α} (h : d.R e W base (Far g m R) v xs) (hF : Fr (fun k => k = g) W W') (hR : ∀ i, R' i → R i ∨ W.heap.size ≤ i) : d.R e W' base (Far g m R') v xs := by
  refine Kd.R_mono (R_fr (Kd.R_bound h) hF (fun k hk e => hk.1.1 e)) (fun k hk => ⟨hk.1.1, hk.1.2.1, fun hr => ?_⟩)
  rcases hR k hr with h1 | h1
  · exact hk.1.2.2 h1
  · exact absurd hk.2.2.1 (Nat.not_lt.2 h1)
theorem Fr.of_grown {W W' : World} {row : Option Nat} (h : W.grownBy W' row) : Fr (fun i => some i = row) W W' := ⟨h.os, h.tape, h.output, h.size, fun i hi hn => h.block i hi (fun e => hn e)⟩

set_option maxRecDepth 100000 in
set_option maxHeartbeats 4000000 in
theorem sound_walk (A : Option Addr) (c : Nat) (sh : List (List Int)) (q : Int) (A1 : Option Addr) (c1 : Nat) (ops : List S34) (w : World) (hC : Kd.C (Kd.slice 3 (Kd.int .i64)) w A sh.length sh) (hc : sh.length ≤ c) (hcm : c ≤ 9223372036854775807)
    (hC1 : Kd.C k34 w A1 ops.length ops) (hc1 : ops.length ≤ c1) :
    Calls Try.prog 5 #[.slice A sh.length c, .int .i64 q, .slice A1 ops.length c1] w fun e w' => e = .returned (.bool true) ∧ Below w.heap.size w w' := by
  have HC := Lib.hid (fun W (h : Below w.heap.size w W) => Kd.C_below hC h)
  have HC1 := Lib.hid (fun W (h : Below w.heap.size w W) => Kd.C_below hC1 h)
  have HGr := Lib.hid (fun W (h : Below w.heap.size w W) => great_any A c sh A1 c1 ops W (Kd.C_below hC h) hc hcm (Kd.C_below hC1 h) hc1)
  clear hC hC1
  by_cases hn : newOk sh q = true
  · have HNew := Lib.hid (fun W (h : Below w.heap.size w W) => New_any W A c sh q (HC.out W h) hn)
    have HNG := Lib.hid (new_good hn)
    have hsok : sh.all shapeOk = true := by unfold newOk at hn; simp only [Bool.and_eq_true] at hn; exact hn.2
    have HSok := Lib.hid hsok
    clear hn hsok
    by_cases hg : tooGreat sh ops = true
    · rw [hg] at HGr
      clear hg
      go_enter Try.func5, Try.ntmps5
      go_wp2_with (first | (go_at_call 8; refine (alive_any _).mono ?_; rintro e w1 ⟨rfl, hb⟩; have HB1 := Lib.hid hb; clear hb) | (go_at_call 9; refine (HNew.out _ HB1.out).mono ?_; rintro e w2 ⟨g, m, R, rfl, ho, hR, hb⟩; have HB2 := Lib.hid (below_then HB1.out HB1.out.size hb); clear ho hR hb) | (go_at_call 10; refine (HGr.out _ HB2.out).mono ?_; rintro e w3 ⟨rfl, hd⟩; have HB3 := Lib.hid (below_then HB2.out HB2.out.size (drawn_below hd)); clear hd))
      go_ret
      exact ⟨rfl, HB3.out⟩
    · have hg : tooGreat sh ops = false := by simpa using hg
      have HL := Lib.hid (tooGreat_no hg)
      rw [hg] at HGr
      clear hg
      go_enter Try.func5, Try.ntmps5
      go_wp2_with (first | (go_at_call 8; refine (alive_any _).mono ?_; rintro e w1 ⟨rfl, hb⟩; have HB1 := Lib.hid hb; clear hb) | (go_at_call 9; refine (HNew.out _ HB1.out).mono ?_; rintro e w2 ⟨g, m, R, rfl, ho, hR, hb⟩; have HB2 := Lib.hid (below_then HB1.out HB1.out.size hb); have HO2 := Lib.hid (ho.lower HB1.out.size); clear ho hR hb) | (go_at_call 10; refine (HGr.out _ HB2.out).mono ?_; rintro e w3 ⟨rfl, hd⟩; have HB3 := Lib.hid (below_then HB2.out HB2.out.size (drawn_below hd)); have HO3 := Lib.hid (HO2.out.below (drawn_below hd)); clear hd))
      clear HO2 HB2 HB1 HNew HGr
      go_loopw [45, 10] (fun j v10 wr => ∃ (k : Nat) (H : HM) (R : Nat → Prop) (v : Value), j = .int .i64 k ∧ v = v10 ∧ k ≤ ops.length ∧ Aside0 (HOwn w.heap.size wr g m H R) ∧ Aside0 (HGood sh q k H) ∧ Aside0 (Sound H) ∧ Aside0 (Kd.R (Kd.int .i64) 3 wr w.heap.size (Far g m R) v H.objs) ∧ Aside0 (Below w.heap.size w wr)) (fun j _ _ => ops.length - (intOf j).toNat)
      case atStart => exact ⟨0, _, _, _, rfl, rfl, Nat.zero_le _, Aside0.mk HO3.out, Aside0.mk HNG.out, Aside0.mk (sound_new sh q), Aside0.mk (Kd.R_nil _ _ _ _ _), Aside0.mk HB3.out⟩
      case round =>
        clear HO3 HB3 HNG
        obtain ⟨k, H, R', v, rfl, rfl, hk, HO, HGd, HSd, HMd, HB⟩ := hrel
        have hl150 := HL.out
        by_cases hkl : k < ops.length
        · have hkl' : ((k : Int) < (ops.length : Int)) := by omega
          obtain ⟨ad, rfl, x0, x1, x2, x3, x4, x5, x6⟩ := at_T34 (HC1.out _ HB.out) (k : Int) (by omega) (by omega)
          rw [Int.toNat_natCast] at *
          have HK150 := Lib.hid (Nat.lt_of_lt_of_le hkl HL.out)
          generalize rd_T34 ops (k : Int) = o at *
          obtain ⟨f0, f1, f2, ⟨f3, f4⟩, ⟨f5, f6⟩⟩ := o
          simp only at x0 x1 x2 x3 x4 x5 x6
          have hbA := below_alloc (Below.refl wr.heap.size wr) (.cells #[.int .i64 f0, .int .i64 f1, .int .i64 f2, .int .i64 f3, .int .i64 f4, .int .i64 f5, .int .i64 f6] 34)
          have HBA := Lib.hid (below_then HB.out HB.out.size hbA)
          have HOA := Lib.hid (HO.out.below hbA)
          have HMA := Lib.hid (Kd.R_below HMd.out hbA)
          have HOB := Lib.hid (World.alloc_heap_new wr (.cells #[.int .i64 f0, .int .i64 f1, .int .i64 f2, .int .i64 f3, .int .i64 f4, .int .i64 f5, .int .i64 f6] 34))
          have HNE : Hid (wr.heap.size ≠ g ∧ wr.heap.size ≠ m) := Lib.hid ⟨Nat.ne_of_gt HO.out.glt.1, Nat.ne_of_gt HO.out.glt.2⟩
          clear hbA
          by_cases h0 : f0 = 0
          · subst h0
            by_cases hm : makeC H f1 = 0
            · have HMk := Lib.hid (Make_ok HOA.out HGd.out.fit f1 hm)
              have HM0 := Lib.hid hm
              have hobj : (makeH H f1).objs = H.objs ++ [f1] := by rw [make_eq hm]
              have HObj := Lib.hid hobj
              have HFew := Lib.hid (Nat.lt_of_le_of_lt HGd.out.few HK150.out)
              clear hm hobj
              go_upto_region 12 with (go_at_call 11; refine HMk.out.mono ?_; rintro e w5 ⟨rfl, ⟨R4, ho, hr4⟩, hf⟩; have HB5 := Lib.hid (below_g HBA.out HBA.out.size HOA.out hf); have HO5 := Lib.hid ho; have HM5 := Lib.hid (R_far_make HMA.out hf hr4); have HOB5 := Lib.hid ((hf.block wr.heap.size (blk_lt HOB.out) HNE.out.1).trans HOB.out); clear ho hr4 hf)
              have hb5 := below_alloc (Below.refl w5.heap.size w5) (.cells #[.int .i64 2, .int .i64 ((H.objs.length : Int) + 1)] 32)
              have HO6 := Lib.hid (HO5.out.below hb5)
              have HB6 := Lib.hid (below_then HB5.out HB5.out.size hb5)
              have HM6 := Lib.hid (Kd.R_below HM5.out hb5)
              have E := (hb5.block wr.heap.size (blk_lt HOB5.out)).trans HOB5.out
              have y1 := blk_cell E 1
              simp only [List.getElem?_toArray, List.getElem?_cons_zero, List.getElem?_cons_succ] at y1
              clear hb5 HO5 HB5 HM5 HOB5 HMA HOA HBA HOB HMk E
              generalize w5.alloc (.cells #[.int .i64 2, .int .i64 ((H.objs.length : Int) + 1)] 32) = w6 at *
              generalize w5.heap.size = vb at *
              go_wp2_with ((with_reducible refine gate_builtin (b := .append) (xs := #[.tmp 62, .tmp 65]) rfl ?_); at_builtin; refine Kd.R_append (Kd.int .i64) (w0 := w) w.heap.size rfl (.tmp 62) (.tmp 65) 38 3 (.int .i64 0) 8 rfl Try.underlying38 info3 rfl (by decide) (by decide) v H.objs f1 [.int .i64 f1] (fun k => Far g m R4 k ∨ w6.heap.size ≤ k) (fun _ => False) rfl rfl rfl (fun _ h => h.elim) (fun k hk => .inr hk) (Kd.R_mono HM6.out (fun _ h => .inl h)) HB6.out HB6.out.size (by have := HFew.out; omega) ?_; intro v8 w8 hR8 hB8 hgrow hat; have HR8 := Lib.hid hR8; have HB8 := Lib.hid hB8; have HGrow := Lib.hid hgrow; clear hR8 hB8 hgrow hat)
              have hown : ∀ b, v.ownBlock = some b → Far g m R4 b := HM6.out.1
              have hfr := Fr.of_grown HGrow.out
              have HO8 := Lib.hid (HO6.out.fr hfr (fun e => (hown g e.symm).1 rfl) (fun e => (hown m e.symm).2.1 rfl) (fun i hi e => (hown i e.symm).2.2 hi))
              have HM8 := Lib.hid (Kd.R_mono HR8.out (fun b (hb : Far g m R4 b ∨ w6.heap.size ≤ b) => hb.elim (fun h => h) (fun h => (⟨Nat.ne_of_gt (Nat.lt_of_lt_of_le HO6.out.glt.1 h), Nat.ne_of_gt (Nat.lt_of_lt_of_le HO6.out.glt.2 h), fun hr => absurd (HO6.out.lt b hr) (Nat.not_lt.2 h)⟩ : Far g m R4 b))))
              clear hown hfr HR8 HGrow
              go_roundw
              case rel => exact ⟨k + 1, _, R4, _, by go_num, rfl, by omega, Aside0.mk HO8.out, Aside0.mk (HGd.out.make f1 HK150.out), Aside0.mk (HSd.out.make f1), Aside0.mk (by rw [HObj.out]; exact HM8.out), Aside0.mk HB8.out⟩
              case measure => simp [intOf]; omega
            · have HMk := Lib.hid (Make_not HOA.out HGd.out.fit f1 hm)
              obtain ⟨cm, hcm⟩ : ∃ cm, makeC H f1 = cm := ⟨_, rfl⟩
              rw [hcm] at hm HMk
              have hcm0 : (cm == 0) = false := by simpa using hm
              clear hm hcm
              go_wp2_with (go_at_call 11; refine HMk.out.mono ?_; rintro e w5 ⟨rfl, ⟨R4, ho, hr4⟩, hf⟩; have hb5 := below_alloc (Below.refl w5.heap.size w5) (.cells #[.int .i64 0, .int .i64 0] 32); have HB5 := Lib.hid (below_then (below_g HBA.out HBA.out.size HOA.out hf) (below_g HBA.out HBA.out.size HOA.out hf).size hb5); have HO5 := Lib.hid (ho.below hb5); have HM5 := Lib.hid (Kd.R_below (R_far_make HMA.out hf hr4) hb5); clear ho hr4 hf hb5)
              go_roundw
              case rel => exact ⟨k + 1, H, R4, _, by go_num, rfl, by omega, Aside0.mk HO5.out, Aside0.mk (HGd.out.mono (Nat.le_succ k)), HSd, Aside0.mk HM5.out, Aside0.mk HB5.out⟩
              case measure => simp [intOf]; omega
          · by_cases h2 : f0 = 2
            · subst h2
              clear h0
              have HSt := Lib.hid (Set_any HOA.out HGd.out.fit f3 f4 f1 f5 f6)
              obtain ⟨⟨cc, ff⟩, hcf⟩ : ∃ p, setR H f3 f4 f1 f5 f6 = p := ⟨_, rfl⟩
              rw [hcf] at HSt
              clear hcf
              go_wp2_with (go_at_call 13; refine HSt.out.mono ?_; rintro e w5 ⟨rfl, ho, hf⟩; have HB5 := Lib.hid (below_m HBA.out HBA.out.size HOA.out hf); have HO5 := Lib.hid ho; have HM5 := Lib.hid (R_fr HMA.out hf (fun k hk e => hk.2.1 e)); clear ho hf)
              go_roundw
              case rel => exact ⟨k + 1, _, R', _, by go_num, rfl, by omega, Aside0.mk HO5.out, Aside0.mk ((HGd.out.set f3 f4 f1 f5 f6).mono (Nat.le_succ k)), Aside0.mk (HSd.out.set f3 f4 f1 f5 f6), Aside0.mk (by rw [set_objs]; exact HM5.out), Aside0.mk HB5.out⟩
              case measure => simp [intOf]; omega
            · have h0' : (f0 == 0) = false := by simpa using h0
              have h2' : (f0 == 2) = false := by simpa using h2
              go_wp2
              go_roundw
              case rel => exact ⟨k + 1, H, R', _, by go_num, rfl, by omega, Aside0.mk HOA.out, Aside0.mk (HGd.out.mono (Nat.le_succ k)), HSd, Aside0.mk HMA.out, Aside0.mk HBA.out⟩
              case measure => simp [intOf]; omega
        · obtain ⟨Am, cm, rfl, hcm2, hCm⟩ := Kd.R_reads HMd.out
          have HCm := Lib.hid hCm
          have hol : H.objs.length ≤ 150 := Nat.le_trans HGd.out.few (by omega)
          have HSok' := Lib.hid (show H.sh.all shapeOk = true by rw [HGd.out.sh]; exact HSok.out)
          have HOb := Lib.hid (fun (W : World) (h : Below wr.heap.size wr W) => HO.out.below h)
          have HBb := Lib.hid (fun (W : World) (h : Below wr.heap.size wr W) => below_then HB.out HB.out.size h)
          clear hCm HMd HC1 HO HB HSok
          obtain ⟨wo, rfl⟩ : ∃ wo : World, wo = wr := ⟨_, rfl⟩
          go_wp2
          go_loopw [80, 15] (fun j u W => ∃ (i : Nat), j = .int .i64 i ∧ u = .int .i64 (sumR H i) ∧ i ≤ H.objs.length ∧ Aside0 (Below wo.heap.size wo W)) (fun j _ _ => H.objs.length - (intOf j).toNat)
          case atStart => exact ⟨0, rfl, rfl, Nat.zero_le _, Aside0.mk (Below.refl _ _)⟩
          case round =>
            obtain ⟨i, rfl, rfl, hi, HBw⟩ := hrel
            obtain ⟨hs1, hs2⟩ := sumR_le HGd.out.fit i hi
            by_cases hil : i < H.objs.length
            · have hil' : ((i : Int) < (H.objs.length : Int)) := by omega
              obtain ⟨am, rfl, e0⟩ := Kd.at_int HCm.out (i : Int) (by omega) hil'
              rw [Int.toNat_natCast] at e0
              have h1 : (1 : Int) ≤ (i : Int) + 1 := by omega
              have h2 : (i : Int) + 1 ≤ (H.objs.length : Int) := by omega
              obtain ⟨o0, o1⟩ := HGd.out.fit.obj h1 h2
              rw [show (i : Int) + 1 - 1 = (i : Int) by omega] at o0 o1
              obtain ⟨o, ho⟩ : ∃ o : Nat, rd H.objs (i : Int) = o := ⟨(rd H.objs (i : Int)).toNat, by omega⟩
              have hrow : rowOf H ((i : Int) + 1) = rd_L1 sh (o : Int) := by unfold rowOf; rw [HGd.out.sh, show (i : Int) + 1 - 1 = (i : Int) by omega, ho]
              rw [HGd.out.sh] at o1
              rw [ho] at e0 o0 o1
              have hsh := fun (W : World) (hw : HOwn w.heap.size W g m H R') => Shape_at hw HGd.out.fit ((i : Int) + 1) h1 h2
              simp only [show (i : Int) + 1 - 1 = (i : Int) by omega, ho] at hsh
              have hce := fun (W : World) (hw : HOwn w.heap.size W g m H R') => Cells_any hw HGd.out.fit 2 ((i : Int) + 1)
              have hobj : objC H 2 ((i : Int) + 1) = 0 := by unfold objC; rw [if_pos (ready_zero (by omega) h2), if_neg (by omega)]
              have hcc : cellsC H 2 ((i : Int) + 1) = csOf H ((i : Int) + 1) := by unfold cellsC; rw [if_pos hobj]
              simp only [hobj, hcc] at hce
              have hft := HSd.out.fits HGd.out.fit HSok'.out h1 h2
              have hvl : ∀ j : Nat, j < (csOf H ((i : Int) + 1)).length → heldB H (rd_T32 (csOf H ((i : Int) + 1)) (j : Int)).f0 (rd_T32 (csOf H ((i : Int) + 1)) (j : Int)).f1 = true := fun j hj => by
                rw [csOf_length] at hj
                rw [csOf_at H _ hj]
                exact (HSd.out.held HGd.out.fit HSok'.out (n := (i : Int) + 1) (i := j) ⟨h1, h2, by omega, by omega⟩).1
              have hsum : sumR H (i + 1) = sumR H i + ((csOf H ((i : Int) + 1)).length : Int) := by rw [csOf_length]; rfl
              have hcl := csOf_length H ((i : Int) + 1)
              have hrl : (rowOf H ((i : Int) + 1)).length ≤ 16 := HGd.out.fit.row _ (by rw [hrow, HGd.out.sh]; exact rdL1_in o0 o1)
              obtain ⟨ae, Ae, ce, rfl, e1, hcA, hCe⟩ := at_L1 (HC.out w (Below.refl _ _)) (o : Int) o0 o1
              rw [Int.toNat_natCast] at e1
              rw [hrow] at hft hcl hrl
              have hcl16 : (csOf H ((i : Int) + 1)).length ≤ 16 := by omega
              have HE0 := Lib.hid (fun (W : World) (h : Below wo.heap.size wo W) => pw_cell_below h e0)
              have HE1 := Lib.hid (fun (W : World) (h : Below wo.heap.size wo W) => pw_cell_below (HBb.out W h) e1)
              have HCe := Lib.hid (fun (W : World) (h : Below wo.heap.size wo W) => Kd.C_below hCe (HBb.out W h))
              have HSh := Lib.hid hsh
              have HCl := Lib.hid hce
              have HFt := Lib.hid hft
              have HVl := Lib.hid hvl
              have HSum := Lib.hid hsum
              have HH1 := Lib.hid h1
              have y0 := HE0.out _ HBw.out
              clear hsh hce hobj hcc hft hvl hsum hrow ho hCe e0 e1 hcl h1 h2
              generalize csOf H ((i : Int) + 1) = cs at *
              generalize rd_L1 sh (o : Int) = row at *
              go_upto_region 25 with (first | (go_at_call 16; refine (ref_any _ _).mono ?_; rintro e w5 ⟨rfl, hb⟩; have HB5 := Lib.hid (below_then HBw.out HBw.out.size hb); clear HBw; have HBw := HB5; clear HB5; clear hb) | (go_at_call 18; refine (HSh.out _ (HOb.out _ HBw.out)).mono ?_; rintro e w6 ⟨rfl, hb⟩; have HB5 := Lib.hid (below_then HBw.out HBw.out.size hb); clear HBw; have HBw := HB5; clear HB5; clear hb) | (go_at_call 19; refine (HCl.out _ (HOb.out _ HBw.out)).mono ?_; rintro e w7 ⟨v7, rfl, hr7, hb⟩; obtain ⟨A7, c7, rfl, hc7, hC7⟩ := Kd.R_reads hr7; have HB5 := Lib.hid (below_then HBw.out HBw.out.size hb); clear HBw; have HBw := HB5; clear HB5; have z1 := HE1.out _ HBw.out; have HC7 := Lib.hid hC7; clear hb hr7 hC7) | (go_at_call 20; refine (value_Fits.calls _ Ae ce row A7 c7 cs true _ (HCe.out _ HBw.out) hcA HC7.out hc7 HFt.out).mono ?_; rintro e w8 ⟨rfl, hb⟩; have HB5 := Lib.hid (below_then HBw.out HBw.out.size hb); clear HBw; have HBw := HB5; clear HB5; have HC8 := Lib.hid (Kd.C_below HC7.out hb); clear HC7 hb))
              clear y0 z1
              go_wp2
              go_loopw [123] (fun j W => ∃ (j2 : Nat), j = .int .i64 j2 ∧ j2 ≤ cs.length ∧ Aside0 (Below w8.heap.size w8 W)) (fun j _ => cs.length - (intOf j).toNat)
              case atStart => exact ⟨0, rfl, Nat.zero_le _, Aside0.mk (Below.refl _ _)⟩
              case round =>
                obtain ⟨j, rfl, hj, HBv⟩ := hrel
                have HBx := Lib.hid (below_then HBw.out HBw.out.size HBv.out)
                by_cases hjl : j < cs.length
                · have hjl' : ((j : Int) < (cs.length : Int)) := by omega
                  obtain ⟨ax, rfl, x0, x1⟩ := at_T32 (Kd.C_below HC8.out HBv.out) (j : Int) (by omega) hjl'
                  rw [Int.toNat_natCast] at x0 x1
                  have hv := HVl.out j hjl
                  generalize rd_T32 cs (j : Int) = x at *
                  obtain ⟨xa, xb⟩ := x
                  simp only at x0 x1 hv
                  have hx4 := (held_type hv).2
                  have HHe := Lib.hid (fun (W : World) (ho : HOwn w.heap.size W g m H R') => (show Calls Try.prog 21 #[.pointer (some ⟨g, 0, none⟩), .agg #[.int .i64 xa, .int .i64 xb]] W fun e w' => e = .returned (.bool true) ∧ Below W.heap.size W w' from by
                    have h := Held_any ho xa xb
                    rw [hv] at h
                    exact h))
                  have hbA := below_alloc (Below.refl wr.heap.size wr) (.cells #[.int .i64 xa, .int .i64 xb] 32)
                  have HBA := Lib.hid (below_then HBx.out HBx.out.size hbA)
                  have HBB := Lib.hid (below_then HBv.out HBv.out.size hbA)
                  clear hv hbA
                  go_wp2_with (go_at_call 21; refine (HHe.out _ (HOb.out _ HBA.out)).mono ?_; rintro e w9 ⟨rfl, hb⟩; have hx := keep_new hb; have q0 := blk_cell hx 0; have HB9 := Lib.hid (below_then HBB.out HBB.out.size hb); simp only [List.getElem?_toArray, List.getElem?_cons_zero] at q0; clear hx hb)
                  go_roundw
                  case rel => exact ⟨j + 1, by go_num, by omega, Aside0.mk HB9.out⟩
                  case measure => simp [intOf]; omega
                · obtain rfl : j = cs.length := by omega
                  go_wp2
                  go_roundw
                  case rel => exact ⟨i + 1, by go_num, by rw [HSum.out], by omega, Aside0.mk HBx.out⟩
                  case measure => simp [intOf]; omega
            · obtain rfl : i = H.objs.length := by omega
              have hu := HSd.out.used
              have hle := HGd.out.fit.used
              have hqq := HGd.out.fit.quota
              have hln := Len_any (HOb.out _ HBw.out)
              have hus := Used_any (HOb.out _ HBw.out)
              have hlf := Left_any (HOb.out _ HBw.out) HGd.out.fit.quota (by omega)
              rw [hu] at hus hle hlf
              rw [HGd.out.quota] at hle hqq hlf
              have HLn := Lib.hid hln
              have HUs := Lib.hid hus
              have HLf := Lib.hid hlf
              obtain ⟨u, huu⟩ : ∃ u, sumR H H.objs.length = u := ⟨_, rfl⟩
              obtain ⟨hq1, hq2⟩ := hqq
              obtain ⟨_, hle2⟩ := hle
              clear hln hus hlf hu
              rw [huu] at HUs HLf hle2 hs1 hs2 ⊢
              clear huu
              have hw : IntKind.i64.wrap (q - u) = q - u := by rw [IntKind.wrap_i64]; omega
              go_wp2_with (first | (go_at_call 12; refine HLn.out.mono ?_; rintro e w' ⟨rfl, rfl⟩) | (go_at_call 14; refine HUs.out.mono ?_; rintro e w' ⟨rfl, rfl⟩) | (go_at_call 22; refine HLf.out.mono ?_; rintro e w9 ⟨rfl, nq, hq⟩; have HB9 := Lib.hid (show Below w.heap.size w w9 from hq ▸ pw_below_drewN (HBb.out _ HBw.out) nq); clear hq))
              go_ret
              exact ⟨rfl, HB9.out⟩
  · have hn : newOk sh q = false := by simpa using hn
    have HNew := Lib.hid (fun W (h : Below w.heap.size w W) => New_bad W A c sh q (HC.out W h) hn)
    clear hn
    obtain ⟨b, hb⟩ : ∃ b, tooGreat sh ops = b := ⟨_, rfl⟩
    rw [hb] at HGr
    clear hb
    go_enter Try.func5, Try.ntmps5
    cases b <;>
    (go_wp2_with (first | (go_at_call 8; refine (alive_any _).mono ?_; rintro e w1 ⟨rfl, hb⟩; have HB1 := Lib.hid hb; clear hb) | (go_at_call 9; refine (HNew.out _ HB1.out).mono ?_; rintro e w2 ⟨rfl, hb⟩; have HB2 := Lib.hid (below_then HB1.out HB1.out.size hb); clear hb) | (go_at_call 10; refine (HGr.out _ HB2.out).mono ?_; rintro e w3 ⟨rfl, hd⟩; have HB3 := Lib.hid (below_then HB2.out HB2.out.size (drawn_below hd)); clear hd))
     go_ret
     exact ⟨rfl, HB3.out⟩)
end Go.Proofs.Ytnomjjhocblkkaa
