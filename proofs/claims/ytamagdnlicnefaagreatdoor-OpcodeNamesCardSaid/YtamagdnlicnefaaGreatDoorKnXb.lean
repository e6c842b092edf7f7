/- OpcodeNames: the effects' text. -/
import Derived.Test.YtamagdnlicnefaaGreatDoorKnTf
import Derived.Test.YtamagdnlicnefaaGreatDoorKnXa
namespace Go.Proofs.YtamagdnlicnefaaGreatDoor
open Go.RowKit Go.Shelf Go.Proofs.YtamagdnlicnefaaGreatDoorW.PrintWords Go.Proofs.YtamagdnlicnefaaGreatDoorW.PrintLast Go.Proofs.YtamagdnlicnefaaGreatDoorW.PrintMore

theorem info9s : (Tryz.prog.info? 9).map (fun i => (i.zero, i.size, i.bytes)) = some (some (.string ⟨#[]⟩), 1, 16) := by kernel_rfl
theorem kb_zero' {k : Nat} (hk : k < 30) (h : ka (k : Int) = 0) : kb (k : Int) = 0 := by
  have key : ∀ k : Fin 30, ka (k.val : Int) = 0 → kb (k.val : Int) = 0 := by decide +kernel
  exact key ⟨k, hk⟩ h
def xaE (k : Nat) : Int := if 0 < ka k then 1 else 0
def xbE (k : Nat) : Int := if 0 < kb k then 3 else 0
def txE (b : Bool) (k : Nat) : ByteArray := ⟨(textL (effT b k (xaE k) (xbE k))).toArray⟩
def pieceB (k : Nat) : ByteArray := if fixB k (xaE k) (xbE k) = true then txE true k ++ ⟨#[58]⟩ ++ txE false k else ⟨#[63]⟩
def piecesB (n : Nat) : List ByteArray := (List.range n).map pieceB
theorem piecesB_succ (k : Nat) : piecesB (k + 1) = piecesB k ++ [pieceB k] := by unfold piecesB; rw [List.range_succ, List.map_append]; rfl
theorem piecesB_len (k : Nat) : (piecesB k).length = k := by unfold piecesB; rw [List.length_map, List.length_range]
def effS : ByteArray := ⟨(Lib.join ((piecesB 30).map (·.data.toList)) [32]).toArray⟩
theorem txE_size (b : Bool) (k : Nat) : (txE b k).size ≤ 10 := by
  unfold txE
  show (textL _).toArray.size ≤ _
  rw [List.size_toArray]
  unfold textL
  have := eff_len b (k : Int) (xaE k) (xbE k)
  split
  · rw [List.length_map]; omega
  · simp
def TRow (W : World) (base : Nat) (v : Value) (l : List ByteArray) : Prop := W.ownsRow base 9 1 v (l.map Value.string).length (l.map Value.string)
theorem TRow.below {W W' : World} {base : Nat} {v : Value} {l : List ByteArray} (h : TRow W base v l) (hb : Below W.heap.size W W') : TRow W' base v l := pw_own_below h hb
theorem TRow.cells {W : World} {base : Nat} {v : Value} {l : List ByteArray} (h : TRow W base v l) (hl : l ≠ []) : ∃ g c, v = .slice (some ⟨g, 0, none⟩) l.length c ∧ l.length ≤ c ∧ g < W.heap.size ∧ ∀ (j : Nat) x, l[j]? = some x → W.cell? ⟨g, 0 + j, none⟩ = some (.string x) := by
  obtain ⟨h1, h2⟩ := h
  rcases h2 with ⟨h2, h3⟩ | ⟨g, cap, cur, hv, hg, hh, r1, r2, r3, r4⟩
  · rw [List.length_map] at h3
    exact absurd (List.eq_nil_of_length_eq_zero h3) hl
  · refine ⟨g, cap, by rw [hv, List.length_map], by rw [List.length_map] at r1; exact r1, blk_lt hh, fun j x hj => ?_⟩
    have hc := blk_cell hh j
    rw [Nat.zero_add, hc]
    have h3 : (l.map Value.string)[j]? = some (.string x) := by rw [List.getElem?_map, hj]; rfl
    rw [← r4, List.getElem?_take] at h3
    split at h3
    · rw [← h3]; simp
    · cases h3
theorem eff_join : (Lib.join ((piecesB 30).map (·.data.toList)) (ByteArray.mk #[32]).data.toList).length ≤ 140737488355328 := by decide +kernel
set_option maxRecDepth 100000 in
set_option maxHeartbeats 8000000 in
theorem effects27_any (w : World) (hV : RVars w) : Calls Tryz.prog 27 #[] w fun e w' => e = .returned (.string effS) ∧ Below w.heap.size w w' := by
  have HRV : Hid (∀ W, Below w.heap.size w W → RVars W) := Lib.hid (fun W hW => hV.below hW)
  clear hV
  go_enter Tryz.func27, Tryz.ntmps27
  go_wp2
  go_loopw [1, 2] (fun p i wr => ∃ (k : Nat), i = .int .i64 k ∧ k ≤ 30 ∧ Aside0 (TRow wr w.heap.size p (piecesB k)) ∧ Aside0 (Below w.heap.size w wr)) (fun _ i _ => 30 - (intOf i).toNat)
  case atStart => exact ⟨0, rfl, by omega, Aside0.mk (World.ownsRow_nil _ _ _ _), Aside0.mk (Below.refl _ _)⟩
  case round =>
    obtain ⟨k, rfl, hk, HI, HB⟩ := hrel
    by_cases hp : k < 30
    · have hp2 : (k : Int) < 30 := by omega
      have HPS := Lib.hid (piecesB_succ k)
      have HPL := Lib.hid (piecesB_len k)
      by_cases ha : 0 < ka (k : Int)
      · have haI : (0 : Int) < ((ka (k : Int) : Nat) : Int) := by omega
        have HXA : Hid (xaE k = 1) := Lib.hid (if_pos ha)
        by_cases hb0 : 0 < kb (k : Int)
        · have hbI : (0 : Int) < ((kb (k : Int) : Nat) : Int) := by omega
          have HXB : Hid (xbE k = 3) := Lib.hid (if_pos hb0)
          clear ha hb0 hp
          go_wp2_with fail
          refine (of20_any (k : Int) 0 0 wr).mono ?_
          rintro e w1 ⟨rfl, hb⟩
          have HI1 := Lib.hid (HI.out.below hb)
          have HB1 := Lib.hid (below_step HB.out hb)
          clear hb HI HB
          go_wp2_with fail
          have hba := below_alloc (Below.refl w1.heap.size w1) (.cells #[.int .i64 k, .int .i64 0, .int .i64 0] 23)
          have hx := World.alloc_heap_new w1 (.cells #[.int .i64 k, .int .i64 0, .int .i64 0] 23)
          refine (Kinds21_any (k : Int) _).mono ?_
          rintro e w2 ⟨rfl, hb⟩
          have hx2 := (hb.block _ (blk_lt hx)).trans hx
          have hb2 := below_step hba hb
          have HI2 := Lib.hid (HI1.out.below hb2)
          have HB2 := Lib.hid (below_step HB1.out hb2)
          have HN : Hid (w.heap.size ≤ w1.heap.size) := Lib.hid HB1.out.size
          have HR1 := HI1
          generalize hn1 : w1.heap.size = n1 at *
          have HOWN : Hid (∀ q, u1.ownBlock = some q → q < n1) := Lib.hid (fun q h => hn1 ▸ (World.ownsRow.lt HI1.out q h).2)
          have c1 : w2.cell? ⟨n1, 1, none⟩ = some (.int .i64 0) := blk_cell hx2 1
          have c2 : w2.cell? ⟨n1, 2, none⟩ = some (.int .i64 0) := blk_cell hx2 2
          have f1 := blk_frozen hx2 1
          have f2 := blk_frozen hx2 2
          have HX := Lib.hid hx2
          clear hx hx2 hba hb hb2 HI1 HB1 hn1 HR1
          go_upto_region 11 with fail
          have hx_ := blk_set HX.out 1 (.int .i64 1)
          have HX_ : Hid ((w2.setCell ⟨n1, 1, none⟩ (.int .i64 1)).heap[n1]? = some (.cells #[.int .i64 k, .int .i64 1, .int .i64 0] 23 (0, 0))) := Lib.hid hx_
          have HI_ : Hid (TRow (w2.setCell ⟨n1, 1, none⟩ (.int .i64 1)) w.heap.size u1 (piecesB k)) := Lib.hid (own_setCell HI2.out (fun h => absurd (HOWN.out n1 h.symm) (Nat.lt_irrefl _)) _)
          have HB_ : Hid (Below w.heap.size w (w2.setCell ⟨n1, 1, none⟩ (.int .i64 1))) := Lib.hid (HB2.out.setCell HN.out _)
          clear hx_ HX HI2 HB2
          have HX := HX_
          have HI2 := HI_
          have HB2 := HB_
          clear HX_ HI_ HB_
          have hx_ := blk_set HX.out 2 (.int .i64 3)
          have HX_ : Hid (((w2.setCell ⟨n1, 1, none⟩ (.int .i64 1)).setCell ⟨n1, 2, none⟩ (.int .i64 3)).heap[n1]? = some (.cells #[.int .i64 k, .int .i64 1, .int .i64 3] 23 (0, 0))) := Lib.hid hx_
          have HI_ : Hid (TRow ((w2.setCell ⟨n1, 1, none⟩ (.int .i64 1)).setCell ⟨n1, 2, none⟩ (.int .i64 3)) w.heap.size u1 (piecesB k)) := Lib.hid (own_setCell HI2.out (fun h => absurd (HOWN.out n1 h.symm) (Nat.lt_irrefl _)) _)
          have HB_ : Hid (Below w.heap.size w ((w2.setCell ⟨n1, 1, none⟩ (.int .i64 1)).setCell ⟨n1, 2, none⟩ (.int .i64 3))) := Lib.hid (HB2.out.setCell HN.out _)
          clear hx_ HX HI2 HB2
          have HX := HX_
          have HI2 := HI_
          have HB2 := HB_
          clear HX_ HI_ HB_
          generalize (w2.setCell ⟨n1, 1, none⟩ (.int .i64 1)).setCell ⟨n1, 2, none⟩ (.int .i64 3) = w3 at *
          clear f1 f2 HOWN c1 c2
          have c0 : w3.cell? ⟨n1, 0, none⟩ = some (.int .i64 k) := blk_cell HX.out 0
          have c1 : w3.cell? ⟨n1, 1, none⟩ = some (.int .i64 1) := blk_cell HX.out 1
          have c2 : w3.cell? ⟨n1, 2, none⟩ = some (.int .i64 3) := blk_cell HX.out 2
          obtain ⟨tl, htl⟩ : ∃ tl, effT true (k : Int) 1 3 = tl := ⟨_, rfl⟩
          obtain ⟨ll, hll⟩ : ∃ ll, effT false (k : Int) 1 3 = ll := ⟨_, rfl⟩
          cases hfx : fixB (k : Int) 1 3
          · have HPB : Hid (pieceB k = ⟨#[63]⟩) := Lib.hid (by unfold pieceB; rw [HXA.out, HXB.out, hfx]; rfl)
            have HEF := Lib.hid (eff_rows (k : Int) 1 3 false tl ll hfx htl hll)
            clear hfx htl hll
            go_wp2_with fail
            refine (HEF.out w3 (HRV.out _ HB2.out).len).mono ?_
            rintro e w4 ⟨Au, cu, Av, cv, rfl, _, _, hb⟩
            have HI4 := Lib.hid (HI2.out.below hb)
            have HB4 := Lib.hid (below_step HB2.out hb)
            clear hb HI2 HB2 c0 c1 c2
            go_wp2_with (at_builtin; refine print_append (w0 := w) w.heap.size rfl (.tmp 34) (.tmp 35) 48 9 (.string ⟨#[]⟩) 16 rfl Tryz.underlying48 info9s rfl (by decide) u1 ((piecesB k).map Value.string) (.string ⟨#[63]⟩) rfl rfl rfl HI4.out HB4.out HB4.out.size (by rw [List.length_map, HPL.out]; omega) ?_; intro v5 w5 hown5 hb5 _ _; have HO5 := Lib.hid hown5; have HB5 := Lib.hid hb5; clear hown5 hb5)
            refine ⟨⟨k + 1, by go_num, by omega, Aside0.mk ?_, Aside0.mk HB5.out⟩, ?_⟩
            · show TRow _ _ _ _
              rw [HPS.out, HPB.out]
              unfold TRow
              rw [List.map_append]
              exact HO5.out
            · show 30 - ((k : Int) + 1).toNat < 30 - (k : Int).toNat
              omega
          · have HPB : Hid (pieceB k = ⟨(textL tl).toArray⟩ ++ ⟨#[58]⟩ ++ ⟨(textL ll).toArray⟩) := Lib.hid (by unfold pieceB txE; rw [HXA.out, HXB.out, hfx, htl, hll]; rfl)
            have HEF := Lib.hid (eff_rows (k : Int) 1 3 true tl ll hfx htl hll)
            have HSZ1 := Lib.hid (show (⟨(textL tl).toArray⟩ : ByteArray).size ≤ 10 by have h := txE_size true k; unfold txE at h; rw [HXA.out, HXB.out, htl] at h; exact h)
            have HSZ2 := Lib.hid (show (⟨(textL ll).toArray⟩ : ByteArray).size ≤ 10 by have h := txE_size false k; unfold txE at h; rw [HXA.out, HXB.out, hll] at h; exact h)
            clear hfx htl hll
            go_wp2_with fail
            refine (HEF.out w3 (HRV.out _ HB2.out).len).mono ?_
            rintro e w4 ⟨Au, cu, Av, cv, rfl, hu, hv, hb⟩
            have HI4 := Lib.hid (HI2.out.below hb)
            have HB4 := Lib.hid (below_step HB2.out hb)
            have HU := Lib.hid hu
            have HV := Lib.hid hv
            clear hb HI2 HB2 c0 c1 c2 hu hv
            go_wp2_with fail
            refine (Text52_any w4 Au cu tl HU.out.2).mono ?_
            rintro e w5 ⟨rfl, hb⟩
            have HI5 := Lib.hid (HI4.out.below hb)
            have HB5 := Lib.hid (below_step HB4.out hb)
            have HV5 := Lib.hid (HV.out.below hb)
            clear hb HI4 HB4 HU HV
            obtain ⟨t1, ht1⟩ : ∃ t1 : ByteArray, ⟨(textL tl).toArray⟩ = t1 := ⟨_, rfl⟩
            obtain ⟨t2, ht2⟩ : ∃ t2 : ByteArray, ⟨(textL ll).toArray⟩ = t2 := ⟨_, rfl⟩
            rw [ht1] at HPB HSZ1
            rw [ht2] at HPB HSZ2
            have HT2 := Lib.hid ht2
            rw [ht1]
            clear ht1 ht2
            have hs1 : t1.size + (⟨#[58]⟩ : ByteArray).size ≤ 9223372036854775807 := by have := HSZ1.out; have h : (⟨#[58]⟩ : ByteArray).size = 1 := rfl; omega
            have hs2 : (t1 ++ ⟨#[58]⟩).size + t2.size ≤ 9223372036854775807 := by have := HSZ1.out; have := HSZ2.out; rw [ByteArray.size_append]; have h : (⟨#[58]⟩ : ByteArray).size = 1 := rfl; omega
            have r1 := fun W => run_string_add_sum (P := Tryz.prog) (w := W) t1 ⟨#[58]⟩ hs1
            have r2 := fun W => run_string_add_sum (P := Tryz.prog) (w := W) (t1 ++ ⟨#[58]⟩) t2 hs2
            obtain ⟨t3, ht3⟩ : ∃ t3 : ByteArray, t1 ++ ⟨#[58]⟩ ++ t2 = t3 := ⟨_, rfl⟩
            rw [ht3] at HPB
            simp only [ht3] at r2
            clear hs1 hs2 ht3
            go_wp2_with fail
            refine (Text52_any w5 Av cv ll HV5.out.2).mono ?_
            rintro e w6 ⟨rfl, hb⟩
            rw [HT2.out]
            have HI6 := Lib.hid (HI5.out.below hb)
            have HB6 := Lib.hid (below_step HB5.out hb)
            clear hb HI5 HB5 HV5
            go_wp2_with (at_builtin; refine print_append (w0 := w) w.heap.size rfl (.tmp 37) (.tmp 44) 48 9 (.string ⟨#[]⟩) 16 rfl Tryz.underlying48 info9s rfl (by decide) u1 ((piecesB k).map Value.string) (.string t3) rfl rfl rfl HI6.out HB6.out HB6.out.size (by rw [List.length_map, HPL.out]; omega) ?_; intro v7 w7 hown7 hb7 _ _; have HO7 := Lib.hid hown7; have HB7 := Lib.hid hb7; clear hown7 hb7)
            refine ⟨⟨k + 1, by go_num, by omega, Aside0.mk ?_, Aside0.mk HB7.out⟩, ?_⟩
            · show TRow _ _ _ _
              rw [HPS.out, HPB.out]
              unfold TRow
              rw [List.map_append]
              exact HO7.out
            · show 30 - ((k : Int) + 1).toNat < 30 - (k : Int).toNat
              omega
        · have hbI : ¬ (0 : Int) < ((kb (k : Int) : Nat) : Int) := by omega
          have HXB : Hid (xbE k = 0) := Lib.hid (if_neg hb0)
          clear ha hb0 hp
          go_wp2_with fail
          refine (of20_any (k : Int) 0 0 wr).mono ?_
          rintro e w1 ⟨rfl, hb⟩
          have HI1 := Lib.hid (HI.out.below hb)
          have HB1 := Lib.hid (below_step HB.out hb)
          clear hb HI HB
          go_wp2_with fail
          have hba := below_alloc (Below.refl w1.heap.size w1) (.cells #[.int .i64 k, .int .i64 0, .int .i64 0] 23)
          have hx := World.alloc_heap_new w1 (.cells #[.int .i64 k, .int .i64 0, .int .i64 0] 23)
          refine (Kinds21_any (k : Int) _).mono ?_
          rintro e w2 ⟨rfl, hb⟩
          have hx2 := (hb.block _ (blk_lt hx)).trans hx
          have hb2 := below_step hba hb
          have HI2 := Lib.hid (HI1.out.below hb2)
          have HB2 := Lib.hid (below_step HB1.out hb2)
          have HN : Hid (w.heap.size ≤ w1.heap.size) := Lib.hid HB1.out.size
          have HR1 := HI1
          generalize hn1 : w1.heap.size = n1 at *
          have HOWN : Hid (∀ q, u1.ownBlock = some q → q < n1) := Lib.hid (fun q h => hn1 ▸ (World.ownsRow.lt HI1.out q h).2)
          have c1 : w2.cell? ⟨n1, 1, none⟩ = some (.int .i64 0) := blk_cell hx2 1
          have c2 : w2.cell? ⟨n1, 2, none⟩ = some (.int .i64 0) := blk_cell hx2 2
          have f1 := blk_frozen hx2 1
          have f2 := blk_frozen hx2 2
          have HX := Lib.hid hx2
          clear hx hx2 hba hb hb2 HI1 HB1 hn1 HR1
          go_upto_region 11 with fail
          have hx_ := blk_set HX.out 1 (.int .i64 1)
          have HX_ : Hid ((w2.setCell ⟨n1, 1, none⟩ (.int .i64 1)).heap[n1]? = some (.cells #[.int .i64 k, .int .i64 1, .int .i64 0] 23 (0, 0))) := Lib.hid hx_
          have HI_ : Hid (TRow (w2.setCell ⟨n1, 1, none⟩ (.int .i64 1)) w.heap.size u1 (piecesB k)) := Lib.hid (own_setCell HI2.out (fun h => absurd (HOWN.out n1 h.symm) (Nat.lt_irrefl _)) _)
          have HB_ : Hid (Below w.heap.size w (w2.setCell ⟨n1, 1, none⟩ (.int .i64 1))) := Lib.hid (HB2.out.setCell HN.out _)
          clear hx_ HX HI2 HB2
          have HX := HX_
          have HI2 := HI_
          have HB2 := HB_
          clear HX_ HI_ HB_
          generalize w2.setCell ⟨n1, 1, none⟩ (.int .i64 1) = w3 at *
          clear f1 f2 HOWN c1 c2
          have c0 : w3.cell? ⟨n1, 0, none⟩ = some (.int .i64 k) := blk_cell HX.out 0
          have c1 : w3.cell? ⟨n1, 1, none⟩ = some (.int .i64 1) := blk_cell HX.out 1
          have c2 : w3.cell? ⟨n1, 2, none⟩ = some (.int .i64 0) := blk_cell HX.out 2
          obtain ⟨tl, htl⟩ : ∃ tl, effT true (k : Int) 1 0 = tl := ⟨_, rfl⟩
          obtain ⟨ll, hll⟩ : ∃ ll, effT false (k : Int) 1 0 = ll := ⟨_, rfl⟩
          cases hfx : fixB (k : Int) 1 0
          · have HPB : Hid (pieceB k = ⟨#[63]⟩) := Lib.hid (by unfold pieceB; rw [HXA.out, HXB.out, hfx]; rfl)
            have HEF := Lib.hid (eff_rows (k : Int) 1 0 false tl ll hfx htl hll)
            clear hfx htl hll
            go_wp2_with fail
            refine (HEF.out w3 (HRV.out _ HB2.out).len).mono ?_
            rintro e w4 ⟨Au, cu, Av, cv, rfl, _, _, hb⟩
            have HI4 := Lib.hid (HI2.out.below hb)
            have HB4 := Lib.hid (below_step HB2.out hb)
            clear hb HI2 HB2 c0 c1 c2
            go_wp2_with (at_builtin; refine print_append (w0 := w) w.heap.size rfl (.tmp 34) (.tmp 35) 48 9 (.string ⟨#[]⟩) 16 rfl Tryz.underlying48 info9s rfl (by decide) u1 ((piecesB k).map Value.string) (.string ⟨#[63]⟩) rfl rfl rfl HI4.out HB4.out HB4.out.size (by rw [List.length_map, HPL.out]; omega) ?_; intro v5 w5 hown5 hb5 _ _; have HO5 := Lib.hid hown5; have HB5 := Lib.hid hb5; clear hown5 hb5)
            refine ⟨⟨k + 1, by go_num, by omega, Aside0.mk ?_, Aside0.mk HB5.out⟩, ?_⟩
            · show TRow _ _ _ _
              rw [HPS.out, HPB.out]
              unfold TRow
              rw [List.map_append]
              exact HO5.out
            · show 30 - ((k : Int) + 1).toNat < 30 - (k : Int).toNat
              omega
          · have HPB : Hid (pieceB k = ⟨(textL tl).toArray⟩ ++ ⟨#[58]⟩ ++ ⟨(textL ll).toArray⟩) := Lib.hid (by unfold pieceB txE; rw [HXA.out, HXB.out, hfx, htl, hll]; rfl)
            have HEF := Lib.hid (eff_rows (k : Int) 1 0 true tl ll hfx htl hll)
            have HSZ1 := Lib.hid (show (⟨(textL tl).toArray⟩ : ByteArray).size ≤ 10 by have h := txE_size true k; unfold txE at h; rw [HXA.out, HXB.out, htl] at h; exact h)
            have HSZ2 := Lib.hid (show (⟨(textL ll).toArray⟩ : ByteArray).size ≤ 10 by have h := txE_size false k; unfold txE at h; rw [HXA.out, HXB.out, hll] at h; exact h)
            clear hfx htl hll
            go_wp2_with fail
            refine (HEF.out w3 (HRV.out _ HB2.out).len).mono ?_
            rintro e w4 ⟨Au, cu, Av, cv, rfl, hu, hv, hb⟩
            have HI4 := Lib.hid (HI2.out.below hb)
            have HB4 := Lib.hid (below_step HB2.out hb)
            have HU := Lib.hid hu
            have HV := Lib.hid hv
            clear hb HI2 HB2 c0 c1 c2 hu hv
            go_wp2_with fail
            refine (Text52_any w4 Au cu tl HU.out.2).mono ?_
            rintro e w5 ⟨rfl, hb⟩
            have HI5 := Lib.hid (HI4.out.below hb)
            have HB5 := Lib.hid (below_step HB4.out hb)
            have HV5 := Lib.hid (HV.out.below hb)
            clear hb HI4 HB4 HU HV
            obtain ⟨t1, ht1⟩ : ∃ t1 : ByteArray, ⟨(textL tl).toArray⟩ = t1 := ⟨_, rfl⟩
            obtain ⟨t2, ht2⟩ : ∃ t2 : ByteArray, ⟨(textL ll).toArray⟩ = t2 := ⟨_, rfl⟩
            rw [ht1] at HPB HSZ1
            rw [ht2] at HPB HSZ2
            have HT2 := Lib.hid ht2
            rw [ht1]
            clear ht1 ht2
            have hs1 : t1.size + (⟨#[58]⟩ : ByteArray).size ≤ 9223372036854775807 := by have := HSZ1.out; have h : (⟨#[58]⟩ : ByteArray).size = 1 := rfl; omega
            have hs2 : (t1 ++ ⟨#[58]⟩).size + t2.size ≤ 9223372036854775807 := by have := HSZ1.out; have := HSZ2.out; rw [ByteArray.size_append]; have h : (⟨#[58]⟩ : ByteArray).size = 1 := rfl; omega
            have r1 := fun W => run_string_add_sum (P := Tryz.prog) (w := W) t1 ⟨#[58]⟩ hs1
            have r2 := fun W => run_string_add_sum (P := Tryz.prog) (w := W) (t1 ++ ⟨#[58]⟩) t2 hs2
            obtain ⟨t3, ht3⟩ : ∃ t3 : ByteArray, t1 ++ ⟨#[58]⟩ ++ t2 = t3 := ⟨_, rfl⟩
            rw [ht3] at HPB
            simp only [ht3] at r2
            clear hs1 hs2 ht3
            go_wp2_with fail
            refine (Text52_any w5 Av cv ll HV5.out.2).mono ?_
            rintro e w6 ⟨rfl, hb⟩
            rw [HT2.out]
            have HI6 := Lib.hid (HI5.out.below hb)
            have HB6 := Lib.hid (below_step HB5.out hb)
            clear hb HI5 HB5 HV5
            go_wp2_with (at_builtin; refine print_append (w0 := w) w.heap.size rfl (.tmp 37) (.tmp 44) 48 9 (.string ⟨#[]⟩) 16 rfl Tryz.underlying48 info9s rfl (by decide) u1 ((piecesB k).map Value.string) (.string t3) rfl rfl rfl HI6.out HB6.out HB6.out.size (by rw [List.length_map, HPL.out]; omega) ?_; intro v7 w7 hown7 hb7 _ _; have HO7 := Lib.hid hown7; have HB7 := Lib.hid hb7; clear hown7 hb7)
            refine ⟨⟨k + 1, by go_num, by omega, Aside0.mk ?_, Aside0.mk HB7.out⟩, ?_⟩
            · show TRow _ _ _ _
              rw [HPS.out, HPB.out]
              unfold TRow
              rw [List.map_append]
              exact HO7.out
            · show 30 - ((k : Int) + 1).toNat < 30 - (k : Int).toNat
              omega
      · have haI : ¬ (0 : Int) < ((ka (k : Int) : Nat) : Int) := by omega
        have HXA : Hid (xaE k = 0) := Lib.hid (if_neg ha)
        have hk0 := kb_zero' hp (by omega)
        have hb0 : ¬ 0 < kb (k : Int) := by omega
        have hbI : ¬ (0 : Int) < ((kb (k : Int) : Nat) : Int) := by omega
        have HXB : Hid (xbE k = 0) := Lib.hid (if_neg hb0)
        clear hk0
        clear ha hb0 hp
        go_wp2_with fail
        refine (of20_any (k : Int) 0 0 wr).mono ?_
        rintro e w1 ⟨rfl, hb⟩
        have HI1 := Lib.hid (HI.out.below hb)
        have HB1 := Lib.hid (below_step HB.out hb)
        clear hb HI HB
        go_wp2_with fail
        have hba := below_alloc (Below.refl w1.heap.size w1) (.cells #[.int .i64 k, .int .i64 0, .int .i64 0] 23)
        have hx := World.alloc_heap_new w1 (.cells #[.int .i64 k, .int .i64 0, .int .i64 0] 23)
        refine (Kinds21_any (k : Int) _).mono ?_
        rintro e w2 ⟨rfl, hb⟩
        have hx2 := (hb.block _ (blk_lt hx)).trans hx
        have hb2 := below_step hba hb
        have HI2 := Lib.hid (HI1.out.below hb2)
        have HB2 := Lib.hid (below_step HB1.out hb2)
        have HN : Hid (w.heap.size ≤ w1.heap.size) := Lib.hid HB1.out.size
        have HR1 := HI1
        generalize hn1 : w1.heap.size = n1 at *
        have HOWN : Hid (∀ q, u1.ownBlock = some q → q < n1) := Lib.hid (fun q h => hn1 ▸ (World.ownsRow.lt HI1.out q h).2)
        have c1 : w2.cell? ⟨n1, 1, none⟩ = some (.int .i64 0) := blk_cell hx2 1
        have c2 : w2.cell? ⟨n1, 2, none⟩ = some (.int .i64 0) := blk_cell hx2 2
        have f1 := blk_frozen hx2 1
        have f2 := blk_frozen hx2 2
        have HX := Lib.hid hx2
        clear hx hx2 hba hb hb2 HI1 HB1 hn1 HR1
        go_upto_region 11 with fail
        have hw3 : ∃ w3, w3 = w2 := ⟨_, rfl⟩
        obtain ⟨w3, rfl⟩ := hw3
        clear f1 f2 HOWN c1 c2
        have c0 : w3.cell? ⟨n1, 0, none⟩ = some (.int .i64 k) := blk_cell HX.out 0
        have c1 : w3.cell? ⟨n1, 1, none⟩ = some (.int .i64 0) := blk_cell HX.out 1
        have c2 : w3.cell? ⟨n1, 2, none⟩ = some (.int .i64 0) := blk_cell HX.out 2
        obtain ⟨tl, htl⟩ : ∃ tl, effT true (k : Int) 0 0 = tl := ⟨_, rfl⟩
        obtain ⟨ll, hll⟩ : ∃ ll, effT false (k : Int) 0 0 = ll := ⟨_, rfl⟩
        cases hfx : fixB (k : Int) 0 0
        · have HPB : Hid (pieceB k = ⟨#[63]⟩) := Lib.hid (by unfold pieceB; rw [HXA.out, HXB.out, hfx]; rfl)
          have HEF := Lib.hid (eff_rows (k : Int) 0 0 false tl ll hfx htl hll)
          clear hfx htl hll
          go_wp2_with fail
          refine (HEF.out w3 (HRV.out _ HB2.out).len).mono ?_
          rintro e w4 ⟨Au, cu, Av, cv, rfl, _, _, hb⟩
          have HI4 := Lib.hid (HI2.out.below hb)
          have HB4 := Lib.hid (below_step HB2.out hb)
          clear hb HI2 HB2 c0 c1 c2
          go_wp2_with (at_builtin; refine print_append (w0 := w) w.heap.size rfl (.tmp 34) (.tmp 35) 48 9 (.string ⟨#[]⟩) 16 rfl Tryz.underlying48 info9s rfl (by decide) u1 ((piecesB k).map Value.string) (.string ⟨#[63]⟩) rfl rfl rfl HI4.out HB4.out HB4.out.size (by rw [List.length_map, HPL.out]; omega) ?_; intro v5 w5 hown5 hb5 _ _; have HO5 := Lib.hid hown5; have HB5 := Lib.hid hb5; clear hown5 hb5)
          refine ⟨⟨k + 1, by go_num, by omega, Aside0.mk ?_, Aside0.mk HB5.out⟩, ?_⟩
          · show TRow _ _ _ _
            rw [HPS.out, HPB.out]
            unfold TRow
            rw [List.map_append]
            exact HO5.out
          · show 30 - ((k : Int) + 1).toNat < 30 - (k : Int).toNat
            omega
        · have HPB : Hid (pieceB k = ⟨(textL tl).toArray⟩ ++ ⟨#[58]⟩ ++ ⟨(textL ll).toArray⟩) := Lib.hid (by unfold pieceB txE; rw [HXA.out, HXB.out, hfx, htl, hll]; rfl)
          have HEF := Lib.hid (eff_rows (k : Int) 0 0 true tl ll hfx htl hll)
          have HSZ1 := Lib.hid (show (⟨(textL tl).toArray⟩ : ByteArray).size ≤ 10 by have h := txE_size true k; unfold txE at h; rw [HXA.out, HXB.out, htl] at h; exact h)
          have HSZ2 := Lib.hid (show (⟨(textL ll).toArray⟩ : ByteArray).size ≤ 10 by have h := txE_size false k; unfold txE at h; rw [HXA.out, HXB.out, hll] at h; exact h)
          clear hfx htl hll
          go_wp2_with fail
          refine (HEF.out w3 (HRV.out _ HB2.out).len).mono ?_
          rintro e w4 ⟨Au, cu, Av, cv, rfl, hu, hv, hb⟩
          have HI4 := Lib.hid (HI2.out.below hb)
          have HB4 := Lib.hid (below_step HB2.out hb)
          have HU := Lib.hid hu
          have HV := Lib.hid hv
          clear hb HI2 HB2 c0 c1 c2 hu hv
          go_wp2_with fail
          refine (Text52_any w4 Au cu tl HU.out.2).mono ?_
          rintro e w5 ⟨rfl, hb⟩
          have HI5 := Lib.hid (HI4.out.below hb)
          have HB5 := Lib.hid (below_step HB4.out hb)
          have HV5 := Lib.hid (HV.out.below hb)
          clear hb HI4 HB4 HU HV
          obtain ⟨t1, ht1⟩ : ∃ t1 : ByteArray, ⟨(textL tl).toArray⟩ = t1 := ⟨_, rfl⟩
          obtain ⟨t2, ht2⟩ : ∃ t2 : ByteArray, ⟨(textL ll).toArray⟩ = t2 := ⟨_, rfl⟩
          rw [ht1] at HPB HSZ1
          rw [ht2] at HPB HSZ2
          have HT2 := Lib.hid ht2
          rw [ht1]
          clear ht1 ht2
          have hs1 : t1.size + (⟨#[58]⟩ : ByteArray).size ≤ 9223372036854775807 := by have := HSZ1.out; have h : (⟨#[58]⟩ : ByteArray).size = 1 := rfl; omega
          have hs2 : (t1 ++ ⟨#[58]⟩).size + t2.size ≤ 9223372036854775807 := by have := HSZ1.out; have := HSZ2.out; rw [ByteArray.size_append]; have h : (⟨#[58]⟩ : ByteArray).size = 1 := rfl; omega
          have r1 := fun W => run_string_add_sum (P := Tryz.prog) (w := W) t1 ⟨#[58]⟩ hs1
          have r2 := fun W => run_string_add_sum (P := Tryz.prog) (w := W) (t1 ++ ⟨#[58]⟩) t2 hs2
          obtain ⟨t3, ht3⟩ : ∃ t3 : ByteArray, t1 ++ ⟨#[58]⟩ ++ t2 = t3 := ⟨_, rfl⟩
          rw [ht3] at HPB
          simp only [ht3] at r2
          clear hs1 hs2 ht3
          go_wp2_with fail
          refine (Text52_any w5 Av cv ll HV5.out.2).mono ?_
          rintro e w6 ⟨rfl, hb⟩
          rw [HT2.out]
          have HI6 := Lib.hid (HI5.out.below hb)
          have HB6 := Lib.hid (below_step HB5.out hb)
          clear hb HI5 HB5 HV5
          go_wp2_with (at_builtin; refine print_append (w0 := w) w.heap.size rfl (.tmp 37) (.tmp 44) 48 9 (.string ⟨#[]⟩) 16 rfl Tryz.underlying48 info9s rfl (by decide) u1 ((piecesB k).map Value.string) (.string t3) rfl rfl rfl HI6.out HB6.out HB6.out.size (by rw [List.length_map, HPL.out]; omega) ?_; intro v7 w7 hown7 hb7 _ _; have HO7 := Lib.hid hown7; have HB7 := Lib.hid hb7; clear hown7 hb7)
          refine ⟨⟨k + 1, by go_num, by omega, Aside0.mk ?_, Aside0.mk HB7.out⟩, ?_⟩
          · show TRow _ _ _ _
            rw [HPS.out, HPB.out]
            unfold TRow
            rw [List.map_append]
            exact HO7.out
          · show 30 - ((k : Int) + 1).toNat < 30 - (k : Int).toNat
            omega
    · obtain rfl : k = 30 := by omega
      have hp2 : ¬ ((30 : Nat) : Int) < 30 := by omega
      obtain ⟨g, c, rfl, hc, hg, hcells⟩ := TRow.cells HI.out (by intro h; have := congrArg List.length h; rw [piecesB_len] at this; cases this)
      have HC := Lib.hid hcells
      have HG := Lib.hid hg
      have HCC := Lib.hid hc
      have hlen := Lib.hid (piecesB_len 30)
      clear hcells hg hc hp hk HI
      go_wp2_with fail
      refine (Tryz.strings_Join g 0 c (piecesB 30) ⟨#[32]⟩ _ HC.out HG.out (by rw [hlen.out]; omega) HCC.out eff_join).mono ?_
      rintro e w9 ⟨rfl, hb⟩
      have HB9 := Lib.hid (below_step HB.out hb)
      clear hb
      go_wp2
      go_ret
      exact ⟨rfl, HB9.out⟩
end Go.Proofs.YtamagdnlicnefaaGreatDoor
