/- OpcodeNames' walk. -/
import Derived.Test.YtamagdnlicnefaaGreatDoorKnXc
namespace Go.Proofs.YtamagdnlicnefaaGreatDoor
open Go.RowKit Go.Shelf Go.Proofs.YtamagdnlicnefaaGreatDoorW.PrintWords Go.Proofs.YtamagdnlicnefaaGreatDoorW.PrintLast Go.Proofs.YtamagdnlicnefaaGreatDoorW.PrintMore

theorem joinN (g c : Nat) (W : World) (h : ∀ (j : Nat) x, (namesB 32)[j]? = some x → W.cell? ⟨g, 0 + j, none⟩ = some (.string x)) (hg : g < W.heap.size) (hc : (namesB 32).length ≤ c) :
    Calls Tryz.prog 26 #[.slice (some ⟨g, 0, none⟩) (namesB 32).length c, .string ⟨#[32]⟩] W fun e w' => e = .returned (.string nameS) ∧ Below W.heap.size W w' :=
  Tryz.strings_Join g 0 c (namesB 32) ⟨#[32]⟩ W h hg (by rw [namesB_len]; omega) hc name_join
theorem nameS_is : nameS = ⟨#[32, 110, 111, 112, 32, 105, 110, 116, 32, 122, 101, 114, 111, 32, 108, 111, 97, 100, 32, 115, 116, 111, 114, 101, 32, 97, 100, 100, 114, 32, 108, 100, 112, 32, 115, 116, 112, 32, 110, 101, 119, 32, 103, 101, 116, 32, 115, 101, 116, 32, 102, 117, 110, 99, 32, 100, 117, 112, 32, 100, 114, 111, 112, 32, 115, 119, 97, 112, 32, 98, 105, 110, 32, 117, 110, 32, 101, 113, 32, 106, 109, 112, 32, 106, 122, 32, 99, 97, 108, 108, 32, 99, 97, 108, 108, 105, 32, 100, 101, 102, 101, 114, 32, 100, 101, 102, 101, 114, 105, 32, 114, 101, 116, 32, 112, 97, 110, 105, 99, 32, 114, 101, 99, 111, 118, 101, 114, 32, 103, 111, 101, 120, 105, 116, 32, 112, 114, 105, 110, 116, 32, 105, 110, 32]⟩ := by decide +kernel
theorem effS_is : effS = ⟨#[58, 32, 58, 73, 32, 58, 73, 32, 63, 32, 63, 32, 58, 80, 32, 80, 58, 73, 32, 80, 73, 58, 32, 58, 82, 32, 82, 58, 70, 32, 82, 70, 58, 32, 58, 70, 32, 63, 32, 63, 32, 63, 32, 73, 73, 58, 73, 32, 73, 58, 73, 32, 73, 73, 58, 73, 32, 58, 32, 73, 58, 32, 63, 32, 63, 32, 63, 32, 63, 32, 58, 32, 73, 58, 32, 58, 73, 73, 32, 58, 32, 73, 58, 32, 58, 73, 73]⟩ := by decide +kernel
theorem nameS_q : (nameS.toList == [32, 110, 111, 112, 32, 105, 110, 116, 32, 122, 101, 114, 111, 32, 108, 111, 97, 100, 32, 115, 116, 111, 114, 101, 32, 97, 100, 100, 114, 32, 108, 100, 112, 32, 115, 116, 112, 32, 110, 101, 119, 32, 103, 101, 116, 32, 115, 101, 116, 32, 102, 117, 110, 99, 32, 100, 117, 112, 32, 100, 114, 111, 112, 32, 115, 119, 97, 112, 32, 98, 105, 110, 32, 117, 110, 32, 101, 113, 32, 106, 109, 112, 32, 106, 122, 32, 99, 97, 108, 108, 32, 99, 97, 108, 108, 105, 32, 100, 101, 102, 101, 114, 32, 100, 101, 102, 101, 114, 105, 32, 114, 101, 116, 32, 112, 97, 110, 105, 99, 32, 114, 101, 99, 111, 118, 101, 114, 32, 103, 111, 101, 120, 105, 116, 32, 112, 114, 105, 110, 116, 32, 105, 110, 32]) = true := by rw [nameS_is]; decide +kernel
theorem effS_q : (effS.toList == [58, 32, 58, 73, 32, 58, 73, 32, 63, 32, 63, 32, 58, 80, 32, 80, 58, 73, 32, 80, 73, 58, 32, 58, 82, 32, 82, 58, 70, 32, 82, 70, 58, 32, 58, 70, 32, 63, 32, 63, 32, 63, 32, 73, 73, 58, 73, 32, 73, 58, 73, 32, 73, 73, 58, 73, 32, 58, 32, 73, 58, 32, 63, 32, 63, 32, 63, 32, 63, 32, 58, 32, 73, 58, 32, 58, 73, 73, 32, 58, 32, 73, 58, 32, 58, 73, 73]) = true := by rw [effS_is]; decide +kernel
theorem eff_bad (op a b : Int) (h : okB op a b = false) (w : World) (hm : ∃ m, w.cell? ⟨0, 0, none⟩ = some (.int .i64 m)) : Calls Tryz.prog 7 #[.agg #[.int .i64 op, .int .i64 a, .int .i64 b]] w fun e w' => ∃ Au cu Av cv, e = .returned (.tuple #[.slice Au 0 cu, .slice Av 0 cv, .bool false]) ∧ Below w.heap.size w w' :=
  (eff_rows op a b false [] [] (by unfold fixB; rw [h]; rfl) (by unfold effT fixB; rw [h]; rfl) (by unfold effT fixB; rw [h]; rfl) w hm).mono fun _ _ ⟨Au, cu, Av, cv, he, _, _, hb⟩ => ⟨Au, cu, Av, cv, he, hb⟩
theorem goes_bad (op a b : Int) (h : okB op a b = false) (w : World) : Calls Tryz.prog 11 #[.agg #[.int .i64 op, .int .i64 a, .int .i64 b]] w fun e w' => e = .returned (.tuple #[.int .i64 0, .bool false]) ∧ Below w.heap.size w w' := by
  have hg : goesB op a b = false := by unfold goesB; rw [h, Bool.and_false]
  have hv : goesV op a b = 0 := by unfold goesV; rw [hg]; rfl
  have := Goes11_any op a b w
  rwa [hg, hv] at this
theorem ends_bad (op a b : Int) (h : okB op a b = false) (w : World) : Calls Tryz.prog 9 #[.agg #[.int .i64 op, .int .i64 a, .int .i64 b]] w fun e w' => e = .returned (.bool false) ∧ Below w.heap.size w w' := by
  have hg : endsB op a b = false := by unfold endsB; rw [h, Bool.and_false]
  have := Ends9_any op a b w
  rwa [hg] at this
theorem chk_bad (op a b : Int) (h : okB op a b = false) (w : World) : Calls Tryz.prog 8 #[.agg #[.int .i64 op, .int .i64 a, .int .i64 b]] w fun e w' => e = .returned (.int .i64 40) ∧ Below w.heap.size w w' := by
  have := Check8_any op a b w
  rwa [h] at this
theorem chk_good (op a b : Int) (h : okB op a b = true) (w : World) : Calls Tryz.prog 8 #[.agg #[.int .i64 op, .int .i64 a, .int .i64 b]] w fun e w' => e = .returned (.int .i64 0) ∧ Below w.heap.size w w' := by
  have := Check8_any op a b w
  rwa [h] at this
theorem bytes_bad (op a b : Int) (h : okB op a b = false) (w : World) : Calls Tryz.prog 29 #[.agg #[.int .i64 op, .int .i64 a, .int .i64 b]] w fun e w' => e = .returned (.string ⟨#[]⟩) ∧ Below w.heap.size w w' := by
  have hw : bytesW op a b = [] := by unfold bytesW; rw [h]; rfl
  have := bytes7_any op a b w
  rwa [hw] at this
theorem show_bad (op a b : Int) (h : okB op a b = false) (w : World) (hT : Tabs w) : Calls Tryz.prog 24 #[.agg #[.int .i64 op, .int .i64 a, .int .i64 b]] w fun e w' => e = .returned (.string ⟨#[]⟩) ∧ Below w.heap.size w w' := by
  have hw : showW op a b = [] := by unfold showW; rw [h]; rfl
  have := Show9_any op a b w hT
  rwa [hw] at this
theorem none_sz : ∀ j : Fin 16, (noneT.getD j.val ⟨#[]⟩).size ≤ 1000 := by decide +kernel
def trip (l : List (Int × Int × Int)) : List Value := l.flatMap fun x => [.int .i64 x.1, .int .i64 x.2.1, .int .i64 x.2.2]
theorem trip_at : ∀ (l : List (Int × Int × Int)) (j : Nat), j < l.length → (trip l)[3 * j]? = some (.int .i64 (l.getD j (0, 0, 0)).1) ∧ (trip l)[3 * j + 1]? = some (.int .i64 (l.getD j (0, 0, 0)).2.1) ∧ (trip l)[3 * j + 2]? = some (.int .i64 (l.getD j (0, 0, 0)).2.2) := by
  intro l
  induction l with
  | nil => intro j h; simp at h
  | cons x l ih =>
    intro j h
    have e : trip (x :: l) = .int .i64 x.1 :: .int .i64 x.2.1 :: .int .i64 x.2.2 :: trip l := rfl
    cases j with
    | zero => exact ⟨rfl, rfl, rfl⟩
    | succ j =>
      have h2 := ih j (by simpa using h)
      rw [e, show 3 * (j + 1) = 3 * j + 1 + 1 + 1 by omega]
      simp only [List.getElem?_cons_succ, List.getD_cons_succ]
      exact h2
set_option maxRecDepth 100000 in
set_option maxHeartbeats 16000000 in
theorem names5_walk (w : World) (hV : RVars w) : Calls Tryz.prog 5 #[] w fun e w' => e = .returned (.bool true) ∧ Below w.heap.size w w' := by
  have HRV : Hid (∀ W, Below w.heap.size w W → RVars W) := Lib.hid (fun W hW => hV.below hW)
  clear hV
  go_enter Tryz.func5, Tryz.ntmps5
  go_wp2
  go_loopw [1, 2] (fun p i wr => ∃ (k : Nat), i = .int .i64 ((k : Int) - 1) ∧ k ≤ 32 ∧ Aside0 (TRow wr w.heap.size p (namesB k)) ∧ Aside0 (Below w.heap.size w wr)) (fun _ i _ => (31 - intOf i).toNat)
  case atStart => exact ⟨0, rfl, by omega, Aside0.mk (World.ownsRow_nil _ _ _ _), Aside0.mk (Below.refl _ _)⟩
  case round =>
    obtain ⟨k, rfl, hk, HI, HB⟩ := hrel
    by_cases hp : k < 32
    · have hp2 : (k : Int) - 1 ≤ 30 := by omega
      have HPS := Lib.hid (namesB_succ k)
      have HPL := Lib.hid (namesB_len k)
      have HNM := Lib.hid (Name25_any ((k : Int) - 1))
      obtain ⟨ns, hns⟩ : ∃ ns : ByteArray, ⟨(nameL ((k : Int) - 1)).toArray⟩ = ns := ⟨_, rfl⟩
      rw [hns] at HNM HPS
      clear hns
      go_wp2_with fail
      refine (HNM.out wr).mono ?_
      rintro e w1 ⟨rfl, hb⟩
      have HI1 := Lib.hid (HI.out.below hb)
      have HB1 := Lib.hid (below_step HB.out hb)
      clear hb HI HB
      go_wp2_with (at_builtin; refine print_append (w0 := w) w.heap.size rfl (.tmp 43) (.tmp 46) 48 9 (.string ⟨#[]⟩) 16 rfl Tryz.underlying48 info9s rfl (by decide) u1 ((namesB k).map Value.string) (.string ns) rfl rfl rfl HI1.out HB1.out HB1.out.size (by rw [List.length_map, HPL.out]; omega) ?_; intro v5 w5 hown5 hb5 _ _; have HO5 := Lib.hid hown5; have HB5 := Lib.hid hb5; clear hown5 hb5)
      refine ⟨⟨k + 1, by go_num, by omega, Aside0.mk ?_, Aside0.mk HB5.out⟩, ?_⟩
      · show TRow _ _ _ _
        rw [HPS.out]
        unfold TRow
        rw [List.map_append]
        exact HO5.out
      · show (31 - (k : Int)).toNat < (31 - ((k : Int) - 1)).toNat
        omega
    · obtain rfl : k = 32 := by omega
      obtain ⟨g, c, rfl, hc, hg, hcells⟩ := TRow.cells HI.out (by intro h; have := congrArg List.length h; rw [namesB_len] at this; cases this)
      have HC := Lib.hid (joinN g c wr hcells hg hc)
      clear hcells hg hc hp hk HI
      go_wp2_with fail
      refine HC.out.mono ?_
      rintro e w2 ⟨rfl, hb⟩
      have HB2 := Lib.hid (below_step HB.out hb)
      clear hb HC HB
      go_wp2_with fail
      have q3 := nameS_q
      go_wp2_with fail
      clear q3
      refine (effects27_any w2 (HRV.out _ HB2.out)).mono ?_
      rintro e w3 ⟨rfl, hb⟩
      have HB := Lib.hid (below_step HB2.out hb)
      clear hb HB2
      have q4 := effS_q
      go_upto_region 9 with fail
      clear q4
      go_wp2_with (go_at_call 28; (with_reducible refine (of20_any _ _ _ _).mono ?_); rintro e wn ⟨rfl, hb⟩; have HB_ := Lib.hid (below_step HB.out hb); clear HB hb; have HB := HB_; clear HB_)
      have hx := World.alloc_heap_new wn (.cells #[.int .i64 (-1), .int .i64 0, .int .i64 0, .int .i64 30, .int .i64 0, .int .i64 0, .int .i64 0, .int .i64 1, .int .i64 0, .int .i64 0, .int .i64 0, .int .i64 1, .int .i64 1, .int .i64 0, .int .i64 1, .int .i64 2, .int .i64 0, .int .i64 0, .int .i64 2, .int .i64 5, .int .i64 0, .int .i64 3, .int .i64 64, .int .i64 0, .int .i64 3, .int .i64 (-1), .int .i64 0, .int .i64 8, .int .i64 64, .int .i64 0, .int .i64 9, .int .i64 16, .int .i64 1, .int .i64 9, .int .i64 0, .int .i64 0, .int .i64 9, .int .i64 0, .int .i64 4, .int .i64 11, .int .i64 64, .int .i64 0, .int .i64 15, .int .i64 14, .int .i64 0, .int .i64 16, .int .i64 9, .int .i64 0, .int .i64 17, .int .i64 0, .int .i64 0, .int .i64 18, .int .i64 512, .int .i64 0, .int .i64 20, .int .i64 (-1), .int .i64 0, .int .i64 24, .int .i64 1, .int .i64 0] 23)
      have hb := below_alloc (Below.refl wn.heap.size wn) (.cells #[.int .i64 (-1), .int .i64 0, .int .i64 0, .int .i64 30, .int .i64 0, .int .i64 0, .int .i64 0, .int .i64 1, .int .i64 0, .int .i64 0, .int .i64 0, .int .i64 1, .int .i64 1, .int .i64 0, .int .i64 1, .int .i64 2, .int .i64 0, .int .i64 0, .int .i64 2, .int .i64 5, .int .i64 0, .int .i64 3, .int .i64 64, .int .i64 0, .int .i64 3, .int .i64 (-1), .int .i64 0, .int .i64 8, .int .i64 64, .int .i64 0, .int .i64 9, .int .i64 16, .int .i64 1, .int .i64 9, .int .i64 0, .int .i64 0, .int .i64 9, .int .i64 0, .int .i64 4, .int .i64 11, .int .i64 64, .int .i64 0, .int .i64 15, .int .i64 14, .int .i64 0, .int .i64 16, .int .i64 9, .int .i64 0, .int .i64 17, .int .i64 0, .int .i64 0, .int .i64 18, .int .i64 512, .int .i64 0, .int .i64 20, .int .i64 (-1), .int .i64 0, .int .i64 24, .int .i64 1, .int .i64 0] 23)
      have HB_ := Lib.hid (below_step HB.out hb)
      have HX : Hid ((wn.alloc (.cells #[.int .i64 (-1), .int .i64 0, .int .i64 0, .int .i64 30, .int .i64 0, .int .i64 0, .int .i64 0, .int .i64 1, .int .i64 0, .int .i64 0, .int .i64 0, .int .i64 1, .int .i64 1, .int .i64 0, .int .i64 1, .int .i64 2, .int .i64 0, .int .i64 0, .int .i64 2, .int .i64 5, .int .i64 0, .int .i64 3, .int .i64 64, .int .i64 0, .int .i64 3, .int .i64 (-1), .int .i64 0, .int .i64 8, .int .i64 64, .int .i64 0, .int .i64 9, .int .i64 16, .int .i64 1, .int .i64 9, .int .i64 0, .int .i64 0, .int .i64 9, .int .i64 0, .int .i64 4, .int .i64 11, .int .i64 64, .int .i64 0, .int .i64 15, .int .i64 14, .int .i64 0, .int .i64 16, .int .i64 9, .int .i64 0, .int .i64 17, .int .i64 0, .int .i64 0, .int .i64 18, .int .i64 512, .int .i64 0, .int .i64 20, .int .i64 (-1), .int .i64 0, .int .i64 24, .int .i64 1, .int .i64 0] 23)).heap[wn.heap.size]? = some (.cells (trip badI).toArray 23 (0, 0))) := Lib.hid hx
      clear HB hb hx
      generalize wn.heap.size = bk at *
      generalize wn.alloc (.cells #[.int .i64 (-1), .int .i64 0, .int .i64 0, .int .i64 30, .int .i64 0, .int .i64 0, .int .i64 0, .int .i64 1, .int .i64 0, .int .i64 0, .int .i64 0, .int .i64 1, .int .i64 1, .int .i64 0, .int .i64 1, .int .i64 2, .int .i64 0, .int .i64 0, .int .i64 2, .int .i64 5, .int .i64 0, .int .i64 3, .int .i64 64, .int .i64 0, .int .i64 3, .int .i64 (-1), .int .i64 0, .int .i64 8, .int .i64 64, .int .i64 0, .int .i64 9, .int .i64 16, .int .i64 1, .int .i64 9, .int .i64 0, .int .i64 0, .int .i64 9, .int .i64 0, .int .i64 4, .int .i64 11, .int .i64 64, .int .i64 0, .int .i64 15, .int .i64 14, .int .i64 0, .int .i64 16, .int .i64 9, .int .i64 0, .int .i64 17, .int .i64 0, .int .i64 0, .int .i64 18, .int .i64 512, .int .i64 0, .int .i64 20, .int .i64 (-1), .int .i64 0, .int .i64 24, .int .i64 1, .int .i64 0] 23) = wa at *
      go_loopw [5, 75] (fun n i W => ∃ (j : Nat), i = .int .i64 j ∧ n = .int .i64 j ∧ j ≤ 20 ∧ Aside0 (Below wa.heap.size wa W)) (fun _ i _ => 20 - (intOf i).toNat)
      case atStart => exact ⟨0, rfl, rfl, by omega, Aside0.mk (Below.refl _ _)⟩
      case round =>
        obtain ⟨j, rfl, rfl, hj, HBW⟩ := hrel
        by_cases hlt : j < 20
        · have hlt2 : (j : Int) < 20 := by omega
          have hx := (HBW.out.block _ (blk_lt HX.out)).trans HX.out
          have hok := bad_ok ⟨j, hlt⟩
          simp only at hok
          obtain ⟨t0, t1, t2⟩ := trip_at badI j (by show j < 20; omega)
          obtain ⟨⟨op, a, b⟩, hxx⟩ : ∃ x, badI.getD j (0, 0, 0) = x := ⟨_, rfl⟩
          rw [hxx] at hok t0 t1 t2
          simp only at hok t0 t1 t2
          rw [Nat.mul_comm 3 j] at t0 t1 t2
          have c0 := blk_cell hx (j * 3)
          have c1 := blk_cell hx (j * 3 + 1)
          have c2 := blk_cell hx (j * 3 + 2)
          rw [List.getElem?_toArray, t0] at c0
          rw [List.getElem?_toArray, t1] at c1
          rw [List.getElem?_toArray, t2] at c2
          clear t0 t1 t2 hxx hlt
          have HOK := Lib.hid hok
          clear hok hx
          have HRW := Lib.hid (fun W (hW : Below wa.heap.size wa W) => HRV.out W (below_step HB_.out hW))
          go_upto_region 12 with fail
          have HX7 := Lib.hid (World.alloc_heap_new wr (.cells #[.int .i64 op, .int .i64 a, .int .i64 b] 23))
          have hb := below_alloc (Below.refl wr.heap.size wr) (.cells #[.int .i64 op, .int .i64 a, .int .i64 b] 23)
          have HBW_ := Lib.hid (below_step HBW.out hb)
          clear HBW hb
          have HBW := HBW_
          clear HBW_ c0 c1 c2
          generalize wr.heap.size = b7 at *
          generalize wr.alloc (.cells #[.int .i64 op, .int .i64 a, .int .i64 b] 23) = w7 at *
          have x0 := blk_cell HX7.out 0
          have x1 := blk_cell HX7.out 1
          have x2 := blk_cell HX7.out 2
          simp only [List.getElem?_toArray, List.getElem?_cons_zero, List.getElem?_cons_succ] at x0 x1 x2
          go_wp2_with fail
          refine (eff_bad op a b HOK.out _ (HRW.out _ HBW.out).len).mono ?_
          rintro e w8 ⟨Au, cu, Av, cv, rfl, hb⟩
          have HX7_ := Lib.hid ((hb.block _ (blk_lt HX7.out)).trans HX7.out)
          have HBW_ := Lib.hid (below_step HBW.out hb)
          clear HX7 HBW hb x0 x1 x2
          have HX7 := HX7_
          have HBW := HBW_
          clear HX7_ HBW_
          have x0 := blk_cell HX7.out 0
          have x1 := blk_cell HX7.out 1
          have x2 := blk_cell HX7.out 2
          simp only [List.getElem?_toArray, List.getElem?_cons_zero, List.getElem?_cons_succ] at x0 x1 x2
          go_wp2_with fail
          refine (goes_bad op a b HOK.out _).mono ?_
          rintro e w9 ⟨rfl, hb⟩
          have HX7_ := Lib.hid ((hb.block _ (blk_lt HX7.out)).trans HX7.out)
          have HBW_ := Lib.hid (below_step HBW.out hb)
          clear HX7 HBW hb x0 x1 x2
          have HX7 := HX7_
          have HBW := HBW_
          clear HX7_ HBW_
          have x0 := blk_cell HX7.out 0
          have x1 := blk_cell HX7.out 1
          have x2 := blk_cell HX7.out 2
          simp only [List.getElem?_toArray, List.getElem?_cons_zero, List.getElem?_cons_succ] at x0 x1 x2
          go_wp2_with fail
          refine (chk_bad op a b HOK.out _).mono ?_
          rintro e w10 ⟨rfl, hb⟩
          have HX7_ := Lib.hid ((hb.block _ (blk_lt HX7.out)).trans HX7.out)
          have HBW_ := Lib.hid (below_step HBW.out hb)
          clear HX7 HBW hb x0 x1 x2
          have HX7 := HX7_
          have HBW := HBW_
          clear HX7_ HBW_
          have x0 := blk_cell HX7.out 0
          have x1 := blk_cell HX7.out 1
          have x2 := blk_cell HX7.out 2
          simp only [List.getElem?_toArray, List.getElem?_cons_zero, List.getElem?_cons_succ] at x0 x1 x2
          go_wp2_with fail
          refine (bytes_bad op a b HOK.out _).mono ?_
          rintro e w11 ⟨rfl, hb⟩
          have HX7_ := Lib.hid ((hb.block _ (blk_lt HX7.out)).trans HX7.out)
          have HBW_ := Lib.hid (below_step HBW.out hb)
          clear HX7 HBW hb x0 x1 x2
          have HX7 := HX7_
          have HBW := HBW_
          clear HX7_ HBW_
          have x0 := blk_cell HX7.out 0
          have x1 := blk_cell HX7.out 1
          have x2 := blk_cell HX7.out 2
          simp only [List.getElem?_toArray, List.getElem?_cons_zero, List.getElem?_cons_succ] at x0 x1 x2
          go_wp2_with fail
          refine (show_bad op a b HOK.out _ (HRW.out _ HBW.out).tabs).mono ?_
          rintro e w12 ⟨rfl, hb⟩
          have HX7_ := Lib.hid ((hb.block _ (blk_lt HX7.out)).trans HX7.out)
          have HBW_ := Lib.hid (below_step HBW.out hb)
          clear HX7 HBW hb x0 x1 x2
          have HX7 := HX7_
          have HBW := HBW_
          clear HX7_ HBW_
          have x0 := blk_cell HX7.out 0
          have x1 := blk_cell HX7.out 1
          have x2 := blk_cell HX7.out 2
          simp only [List.getElem?_toArray, List.getElem?_cons_zero, List.getElem?_cons_succ] at x0 x1 x2
          go_wp2_with fail
          refine (ends_bad op a b HOK.out _).mono ?_
          rintro e w13 ⟨rfl, hb⟩
          have HX7_ := Lib.hid ((hb.block _ (blk_lt HX7.out)).trans HX7.out)
          have HBW_ := Lib.hid (below_step HBW.out hb)
          clear HX7 HBW hb x0 x1 x2
          have HX7 := HX7_
          have HBW := HBW_
          clear HX7_ HBW_
          go_wp2_with fail
          refine ⟨⟨j + 1, by go_num, by go_num, by omega, Aside0.mk HBW.out⟩, ?_⟩
          show 20 - ((j : Int) + 1).toNat < 20 - (j : Int).toNat
          omega
        · obtain rfl : j = 20 := by omega
          rw [show ((20 : Nat) : Int) = (20 : Int) from rfl]
          have HB := Lib.hid (below_step HB_.out HBW.out)
          clear HB_ HX HBW hlt hj
          go_upto_region 18 with fail
          go_wp2_with (go_at_call 28; (with_reducible refine (of20_any _ _ _ _).mono ?_); rintro e wn ⟨rfl, hb⟩; have HB_ := Lib.hid (below_step HB.out hb); clear HB hb; have HB := HB_; clear HB_)
          have hx := World.alloc_heap_new wn (.cells #[.int .i64 1, .int .i64 (-9223372036854775808), .int .i64 0, .int .i64 1, .int .i64 9223372036854775807, .int .i64 0, .int .i64 2, .int .i64 4, .int .i64 0, .int .i64 3, .int .i64 63, .int .i64 0, .int .i64 8, .int .i64 63, .int .i64 0, .int .i64 10, .int .i64 15, .int .i64 3, .int .i64 11, .int .i64 63, .int .i64 0, .int .i64 15, .int .i64 13, .int .i64 0, .int .i64 16, .int .i64 8, .int .i64 0, .int .i64 18, .int .i64 511, .int .i64 0] 23)
          have hb := below_alloc (Below.refl wn.heap.size wn) (.cells #[.int .i64 1, .int .i64 (-9223372036854775808), .int .i64 0, .int .i64 1, .int .i64 9223372036854775807, .int .i64 0, .int .i64 2, .int .i64 4, .int .i64 0, .int .i64 3, .int .i64 63, .int .i64 0, .int .i64 8, .int .i64 63, .int .i64 0, .int .i64 10, .int .i64 15, .int .i64 3, .int .i64 11, .int .i64 63, .int .i64 0, .int .i64 15, .int .i64 13, .int .i64 0, .int .i64 16, .int .i64 8, .int .i64 0, .int .i64 18, .int .i64 511, .int .i64 0] 23)
          have HB_ := Lib.hid (below_step HB.out hb)
          have HX : Hid ((wn.alloc (.cells #[.int .i64 1, .int .i64 (-9223372036854775808), .int .i64 0, .int .i64 1, .int .i64 9223372036854775807, .int .i64 0, .int .i64 2, .int .i64 4, .int .i64 0, .int .i64 3, .int .i64 63, .int .i64 0, .int .i64 8, .int .i64 63, .int .i64 0, .int .i64 10, .int .i64 15, .int .i64 3, .int .i64 11, .int .i64 63, .int .i64 0, .int .i64 15, .int .i64 13, .int .i64 0, .int .i64 16, .int .i64 8, .int .i64 0, .int .i64 18, .int .i64 511, .int .i64 0] 23)).heap[wn.heap.size]? = some (.cells (trip goodI).toArray 23 (0, 0))) := Lib.hid hx
          clear HB hb hx
          generalize wn.heap.size = bk at *
          generalize wn.alloc (.cells #[.int .i64 1, .int .i64 (-9223372036854775808), .int .i64 0, .int .i64 1, .int .i64 9223372036854775807, .int .i64 0, .int .i64 2, .int .i64 4, .int .i64 0, .int .i64 3, .int .i64 63, .int .i64 0, .int .i64 8, .int .i64 63, .int .i64 0, .int .i64 10, .int .i64 15, .int .i64 3, .int .i64 11, .int .i64 63, .int .i64 0, .int .i64 15, .int .i64 13, .int .i64 0, .int .i64 16, .int .i64 8, .int .i64 0, .int .i64 18, .int .i64 511, .int .i64 0] 23) = wa at *
          go_loopw [13, 131] (fun n i W => ∃ (j : Nat), i = .int .i64 j ∧ n = .int .i64 j ∧ j ≤ 10 ∧ Aside0 (Below wa.heap.size wa W)) (fun _ i _ => 10 - (intOf i).toNat)
          case atStart => exact ⟨0, rfl, rfl, by omega, Aside0.mk (Below.refl _ _)⟩
          case round =>
            obtain ⟨j, rfl, rfl, hj, HBW⟩ := hrel
            by_cases hlt : j < 10
            · have hlt2 : (j : Int) < 10 := by omega
              have hx := (HBW.out.block _ (blk_lt HX.out)).trans HX.out
              have hok := good_ok ⟨j, hlt⟩
              simp only at hok
              obtain ⟨t0, t1, t2⟩ := trip_at goodI j (by show j < 10; omega)
              obtain ⟨⟨op, a, b⟩, hxx⟩ : ∃ x, goodI.getD j (0, 0, 0) = x := ⟨_, rfl⟩
              rw [hxx] at hok t0 t1 t2
              simp only at hok t0 t1 t2
              rw [Nat.mul_comm 3 j] at t0 t1 t2
              have c0 := blk_cell hx (j * 3)
              have c1 := blk_cell hx (j * 3 + 1)
              have c2 := blk_cell hx (j * 3 + 2)
              rw [List.getElem?_toArray, t0] at c0
              rw [List.getElem?_toArray, t1] at c1
              rw [List.getElem?_toArray, t2] at c2
              clear t0 t1 t2 hxx hlt
              have HOK := Lib.hid hok
              clear hok hx
              go_upto_region 21 with fail
              have HX7 := Lib.hid (World.alloc_heap_new wr (.cells #[.int .i64 op, .int .i64 a, .int .i64 b] 23))
              have hb := below_alloc (Below.refl wr.heap.size wr) (.cells #[.int .i64 op, .int .i64 a, .int .i64 b] 23)
              have HBW_ := Lib.hid (below_step HBW.out hb)
              clear HBW hb
              have HBW := HBW_
              clear HBW_ c0 c1 c2
              generalize wr.heap.size = b7 at *
              generalize wr.alloc (.cells #[.int .i64 op, .int .i64 a, .int .i64 b] 23) = w7 at *
              obtain ⟨bb, hbb⟩ : ∃ bb, strOfNums (bytesW op a b) = bb := ⟨_, rfl⟩
              have HBB := Lib.hid (fun W => bytes7_any op a b W)
              have HOK2 := Lib.hid HOK.out.2
              rw [hbb] at HBB HOK2
              have HOK1 := Lib.hid HOK.out.1
              clear hbb HOK
              have x0 := blk_cell HX7.out 0
              have x1 := blk_cell HX7.out 1
              have x2 := blk_cell HX7.out 2
              simp only [List.getElem?_toArray, List.getElem?_cons_zero, List.getElem?_cons_succ] at x0 x1 x2
              go_wp2_with fail
              refine (chk_good op a b HOK1.out _).mono ?_
              rintro e w8 ⟨rfl, hb⟩
              have HX7_ := Lib.hid ((hb.block _ (blk_lt HX7.out)).trans HX7.out)
              have HBW_ := Lib.hid (below_step HBW.out hb)
              clear HX7 HBW hb x0 x1 x2
              have HX7 := HX7_
              have HBW := HBW_
              clear HX7_ HBW_
              have q5 := HOK2.out
              have x0 := blk_cell HX7.out 0
              have x1 := blk_cell HX7.out 1
              have x2 := blk_cell HX7.out 2
              simp only [List.getElem?_toArray, List.getElem?_cons_zero, List.getElem?_cons_succ] at x0 x1 x2
              go_wp2_with fail
              refine (HBB.out _).mono ?_
              rintro e w9 ⟨rfl, hb⟩
              have HX7_ := Lib.hid ((hb.block _ (blk_lt HX7.out)).trans HX7.out)
              have HBW_ := Lib.hid (below_step HBW.out hb)
              clear HX7 HBW hb x0 x1 x2
              have HX7 := HX7_
              have HBW := HBW_
              clear HX7_ HBW_
              go_wp2_with fail
              refine ⟨⟨j + 1, by go_num, by go_num, by omega, Aside0.mk HBW.out⟩, ?_⟩
              show 10 - ((j : Int) + 1).toNat < 10 - (j : Int).toNat
              omega
            · obtain rfl : j = 10 := by omega
              rw [show ((10 : Nat) : Int) = (10 : Int) from rfl]
              have HB := Lib.hid (below_step HB_.out HBW.out)
              clear HB_ HX HBW hlt hj
              go_upto_region 25 with fail
              have hx := World.alloc_heap_new wr (.cells #[.string ⟨#[]⟩, .string ⟨#[105, 110, 116]⟩, .string ⟨#[105, 110, 116, 32, 53, 32, 53]⟩, .string ⟨#[105, 110, 116, 32, 48, 53]⟩, .string ⟨#[105, 110, 116, 32, 32, 53]⟩, .string ⟨#[32, 105, 110, 116, 32, 53]⟩, .string ⟨#[105, 110, 116, 32, 43, 53]⟩, .string ⟨#[103, 101, 116, 32, 50]⟩, .string ⟨#[103, 101, 116, 32, 50, 32, 80]⟩, .string ⟨#[98, 105, 110, 32, 102, 111, 111]⟩, .string ⟨#[98, 105, 110, 32, 51]⟩, .string ⟨#[122, 101, 114, 111, 32, 49]⟩, .string ⟨#[106, 109, 112, 32, 53, 49, 50]⟩, .string ⟨#[110, 111, 112, 32, 48]⟩, .string ⟨#[78, 111, 112]⟩, .string ⟨#[108, 111, 97, 100, 32, 45, 49]⟩] 9)
              have hb := below_alloc (Below.refl wr.heap.size wr) (.cells #[.string ⟨#[]⟩, .string ⟨#[105, 110, 116]⟩, .string ⟨#[105, 110, 116, 32, 53, 32, 53]⟩, .string ⟨#[105, 110, 116, 32, 48, 53]⟩, .string ⟨#[105, 110, 116, 32, 32, 53]⟩, .string ⟨#[32, 105, 110, 116, 32, 53]⟩, .string ⟨#[105, 110, 116, 32, 43, 53]⟩, .string ⟨#[103, 101, 116, 32, 50]⟩, .string ⟨#[103, 101, 116, 32, 50, 32, 80]⟩, .string ⟨#[98, 105, 110, 32, 102, 111, 111]⟩, .string ⟨#[98, 105, 110, 32, 51]⟩, .string ⟨#[122, 101, 114, 111, 32, 49]⟩, .string ⟨#[106, 109, 112, 32, 53, 49, 50]⟩, .string ⟨#[110, 111, 112, 32, 48]⟩, .string ⟨#[78, 111, 112]⟩, .string ⟨#[108, 111, 97, 100, 32, 45, 49]⟩] 9)
              have HB_ := Lib.hid (below_step HB.out hb)
              have HX : Hid ((wr.alloc (.cells #[.string ⟨#[]⟩, .string ⟨#[105, 110, 116]⟩, .string ⟨#[105, 110, 116, 32, 53, 32, 53]⟩, .string ⟨#[105, 110, 116, 32, 48, 53]⟩, .string ⟨#[105, 110, 116, 32, 32, 53]⟩, .string ⟨#[32, 105, 110, 116, 32, 53]⟩, .string ⟨#[105, 110, 116, 32, 43, 53]⟩, .string ⟨#[103, 101, 116, 32, 50]⟩, .string ⟨#[103, 101, 116, 32, 50, 32, 80]⟩, .string ⟨#[98, 105, 110, 32, 102, 111, 111]⟩, .string ⟨#[98, 105, 110, 32, 51]⟩, .string ⟨#[122, 101, 114, 111, 32, 49]⟩, .string ⟨#[106, 109, 112, 32, 53, 49, 50]⟩, .string ⟨#[110, 111, 112, 32, 48]⟩, .string ⟨#[78, 111, 112]⟩, .string ⟨#[108, 111, 97, 100, 32, 45, 49]⟩] 9)).heap[wr.heap.size]? = some (.cells (noneT.map Value.string).toArray 9 (0, 0))) := Lib.hid hx
              clear HB hb hx
              go_wp2_with fail
              generalize wr.heap.size = bk at *
              generalize wr.alloc (.cells #[.string ⟨#[]⟩, .string ⟨#[105, 110, 116]⟩, .string ⟨#[105, 110, 116, 32, 53, 32, 53]⟩, .string ⟨#[105, 110, 116, 32, 48, 53]⟩, .string ⟨#[105, 110, 116, 32, 32, 53]⟩, .string ⟨#[32, 105, 110, 116, 32, 53]⟩, .string ⟨#[105, 110, 116, 32, 43, 53]⟩, .string ⟨#[103, 101, 116, 32, 50]⟩, .string ⟨#[103, 101, 116, 32, 50, 32, 80]⟩, .string ⟨#[98, 105, 110, 32, 102, 111, 111]⟩, .string ⟨#[98, 105, 110, 32, 51]⟩, .string ⟨#[122, 101, 114, 111, 32, 49]⟩, .string ⟨#[106, 109, 112, 32, 53, 49, 50]⟩, .string ⟨#[110, 111, 112, 32, 48]⟩, .string ⟨#[78, 111, 112]⟩, .string ⟨#[108, 111, 97, 100, 32, 45, 49]⟩] 9) = wa at *
              go_loopw [16, 148] (fun n i W => ∃ (j : Nat), i = .int .i64 j ∧ n = .int .i64 j ∧ j ≤ 16 ∧ Aside0 (Below wa.heap.size wa W)) (fun _ i _ => 16 - (intOf i).toNat)
              case atStart => exact ⟨0, rfl, rfl, by omega, Aside0.mk (Below.refl _ _)⟩
              case round =>
                obtain ⟨j, rfl, rfl, hj, HBW⟩ := hrel
                by_cases hlt : j < 16
                · have hlt2 : (j : Int) < 16 := by omega
                  have hx := (HBW.out.block _ (blk_lt HX.out)).trans HX.out
                  have hok := none_ok ⟨j, hlt⟩
                  have hsz := none_sz ⟨j, hlt⟩
                  simp only at hok hsz
                  obtain ⟨s, hs⟩ : ∃ s, noneT.getD j ⟨#[]⟩ = s := ⟨_, rfl⟩
                  have c0 := blk_cell hx j
                  have t0 : (noneT.map Value.string)[j]? = some (.string s) := by
                    have hl : j < noneT.length := hlt
                    rw [List.getElem?_map, ← hs]
                    simp [List.getD, hl]
                  rw [List.getElem?_toArray, t0] at c0
                  rw [hs] at hok hsz
                  have HRD := Lib.hid (none_read hok)
                  have HSZ := Lib.hid hsz
                  clear hs hok hsz t0 hx hlt
                  go_wp2_with fail
                  refine (Read19_any s wr (by have := HSZ.out; omega) (HRV.out _ (below_step HB_.out HBW.out))).mono ?_
                  rintro e w8 ⟨ro, ra, rb, rc, rfl, hri, hb⟩
                  obtain ⟨rfl, rfl, rfl, rfl⟩ := readIs_uniq HRD.out hri
                  have HBW_ := Lib.hid (below_step HBW.out (below_alloc hb (.cells #[.int .i64 0, .int .i64 0, .int .i64 0] 23)))
                  clear HBW hb hri c0
                  have HBW := HBW_
                  clear HBW_
                  go_wp2_with fail
                  refine ⟨⟨j + 1, by go_num, by go_num, by omega, Aside0.mk HBW.out⟩, ?_⟩
                  show 16 - ((j : Int) + 1).toNat < 16 - (j : Int).toNat
                  omega
                · obtain rfl : j = 16 := by omega
                  rw [show ((16 : Nat) : Int) = (16 : Int) from rfl]
                  have HB := Lib.hid (below_step HB_.out HBW.out)
                  clear HB_ HX HBW hlt hj
                  go_wp2_with (go_at_call 28; (with_reducible refine (of20_any _ _ _ _).mono ?_); rintro e wn ⟨rfl, hb⟩; have HB_ := Lib.hid (below_step HB.out hb); clear HB hb; have HB := HB_; clear HB_)
                  refine (eff_rows 0 0 0 true [] [] (by decide +kernel) (by decide +kernel) (by decide +kernel) wn (HRV.out _ HB.out).len).mono ?_
                  rintro e wp ⟨Au, cu, Av, cv, rfl, _, _, hb⟩
                  have HB_ := Lib.hid (below_step HB.out hb)
                  clear HB
                  have HB := HB_
                  clear HB_
                  clear hb
                  go_wp2_with fail
                  have hbl := below_alloc (Below.refl wp.heap.size wp) (.cells #[.int .u8 0] 5)
                  refine (on31k [0] 1 _ _ _ (.inr (lit8 wp [0] (by decide))) (by decide) (by decide) rfl).mono ?_
                  rintro e wo ⟨g1, v1, rfl, hg1, hR1, hb1⟩
                  have hs1 := hb1.size
                  have HR1 := Lib.hid hR1
                  have HG1 := Lib.hid hg1
                  have HS1 := Lib.hid hs1
                  have HL := Lib.hid (hbl.trans (hb1.mono hbl.size))
                  have HHB := Lib.hid hb1
                  clear hbl hR1 hg1 hs1 hb1
                  go_wp2_with fail
                  refine (dec30 wo g1 _ v1 [0] 0 0 0 0 _ HR1.out (dc1) _ HS1.out HG1.out).mono ?_
                  rintro e wd ⟨rfl, hb2⟩
                  have hb : Below wp.heap.size wp wd := (below_alloc (Below.refl wp.heap.size wp) (.cells #[.int .u8 0] 5)).trans ((HHB.out.trans hb2).mono (by rw [World.size_alloc]; omega))
                  have HB_ := Lib.hid (below_step HB.out hb)
                  clear HB
                  have HB := HB_
                  clear HB_
                  clear hb hb2 HR1 HG1 HS1 HL HHB
                  go_wp2_with fail
                  (try rw [show wd.heap.size + 1 = (wd.alloc (.cells #[.int .i64 0, .int .i64 0, .int .i64 0] 23)).heap.size from (World.size_alloc wd (.cells #[.int .i64 0, .int .i64 0, .int .i64 0] 23)).symm])
                  have hb := below_alloc (Below.refl wd.heap.size wd) (.cells #[.int .i64 0, .int .i64 0, .int .i64 0] 23)
                  have HB_ := Lib.hid (below_step HB.out hb)
                  clear HB
                  have HB := HB_
                  clear HB_
                  have HY := Lib.hid (World.alloc_heap_new wd (.cells #[.int .i64 0, .int .i64 0, .int .i64 0] 23))
                  generalize wd.heap.size = b24 at *
                  clear hb
                  generalize wd.alloc (.cells #[.int .i64 0, .int .i64 0, .int .i64 0] 23) = wp1 at *
                  have hbl := below_alloc (Below.refl wp1.heap.size wp1) (.cells #[.int .u8 30] 5)
                  refine (on31k [30] 1 _ _ _ (.inr (lit8 wp1 [30] (by decide))) (by decide) (by decide) rfl).mono ?_
                  rintro e wo ⟨g1, v1, rfl, hg1, hR1, hb1⟩
                  have hs1 := hb1.size
                  have HR1 := Lib.hid hR1
                  have HG1 := Lib.hid hg1
                  have HS1 := Lib.hid hs1
                  have HL := Lib.hid (hbl.trans (hb1.mono hbl.size))
                  have HHB := Lib.hid hb1
                  clear hbl hR1 hg1 hs1 hb1
                  go_wp2_with fail
                  refine (dec30 wo g1 _ v1 [30] 0 0 0 12 _ HR1.out (dc2) _ HS1.out HG1.out).mono ?_
                  rintro e wd ⟨rfl, hb2⟩
                  have hb : Below wp1.heap.size wp1 wd := (below_alloc (Below.refl wp1.heap.size wp1) (.cells #[.int .u8 30] 5)).trans ((HHB.out.trans hb2).mono (by rw [World.size_alloc]; omega))
                  have HB_ := Lib.hid (below_step HB.out hb)
                  clear HB
                  have HB := HB_
                  clear HB_
                  have HY_ := Lib.hid ((hb.block _ (blk_lt HY.out)).trans HY.out)
                  clear HY
                  have HY := HY_
                  clear HY_
                  clear hb hb2 HR1 HG1 HS1 HL HHB
                  go_wp2_with fail
                  (try rw [show wd.heap.size + 1 = (wd.alloc (.cells #[.int .i64 0, .int .i64 0, .int .i64 0] 23)).heap.size from (World.size_alloc wd (.cells #[.int .i64 0, .int .i64 0, .int .i64 0] 23)).symm])
                  have hb := below_alloc (Below.refl wd.heap.size wd) (.cells #[.int .i64 0, .int .i64 0, .int .i64 0] 23)
                  have HB_ := Lib.hid (below_step HB.out hb)
                  clear HB
                  have HB := HB_
                  clear HB_
                  have HY_ := Lib.hid ((hb.block _ (blk_lt HY.out)).trans HY.out)
                  clear HY
                  have HY := HY_
                  clear HY_
                  clear hb
                  generalize wd.alloc (.cells #[.int .i64 0, .int .i64 0, .int .i64 0] 23) = wp2 at *
                  have hbl := below_alloc (Below.refl wp2.heap.size wp2) (.cells #[.int .u8 9, .int .u8 1] 5)
                  refine (on31k [9, 1] 2 _ _ _ (.inr (lit8 wp2 [9, 1] (by decide))) (by decide) (by decide) rfl).mono ?_
                  rintro e wo ⟨g1, v1, rfl, hg1, hR1, hb1⟩
                  have hs1 := hb1.size
                  have HR1 := Lib.hid hR1
                  have HG1 := Lib.hid hg1
                  have HS1 := Lib.hid hs1
                  have HL := Lib.hid (hbl.trans (hb1.mono hbl.size))
                  have HHB := Lib.hid hb1
                  clear hbl hR1 hg1 hs1 hb1
                  go_wp2_with fail
                  refine (dec30 wo g1 _ v1 [9, 1] 0 0 0 10 _ HR1.out (dc3) _ HS1.out HG1.out).mono ?_
                  rintro e wd ⟨rfl, hb2⟩
                  have hb : Below wp2.heap.size wp2 wd := (below_alloc (Below.refl wp2.heap.size wp2) (.cells #[.int .u8 9, .int .u8 1] 5)).trans ((HHB.out.trans hb2).mono (by rw [World.size_alloc]; omega))
                  have HB_ := Lib.hid (below_step HB.out hb)
                  clear HB
                  have HB := HB_
                  clear HB_
                  have HY_ := Lib.hid ((hb.block _ (blk_lt HY.out)).trans HY.out)
                  clear HY
                  have HY := HY_
                  clear HY_
                  clear hb hb2 HR1 HG1 HS1 HL HHB
                  go_wp2_with fail
                  (try rw [show wd.heap.size + 1 = (wd.alloc (.cells #[.int .i64 0, .int .i64 0, .int .i64 0] 23)).heap.size from (World.size_alloc wd (.cells #[.int .i64 0, .int .i64 0, .int .i64 0] 23)).symm])
                  have hb := below_alloc (Below.refl wd.heap.size wd) (.cells #[.int .i64 0, .int .i64 0, .int .i64 0] 23)
                  have HB_ := Lib.hid (below_step HB.out hb)
                  clear HB
                  have HB := HB_
                  clear HB_
                  have HY_ := Lib.hid ((hb.block _ (blk_lt HY.out)).trans HY.out)
                  clear HY
                  have HY := HY_
                  clear HY_
                  clear hb
                  generalize wd.alloc (.cells #[.int .i64 0, .int .i64 0, .int .i64 0] 23) = wp3 at *
                  have hbl := below_alloc (Below.refl wp3.heap.size wp3) (.cells #[.int .u8 2, .int .u8 0] 5)
                  refine (on31k [2, 0] 2 _ _ _ (.inr (lit8 wp3 [2, 0] (by decide))) (by decide) (by decide) rfl).mono ?_
                  rintro e wo ⟨g1, v1, rfl, hg1, hR1, hb1⟩
                  have hs1 := hb1.size
                  have HR1 := Lib.hid hR1
                  have HG1 := Lib.hid hg1
                  have HS1 := Lib.hid hs1
                  have HL := Lib.hid (hbl.trans (hb1.mono hbl.size))
                  have HHB := Lib.hid hb1
                  clear hbl hR1 hg1 hs1 hb1
                  go_wp2_with fail
                  refine (dec30 wo g1 _ v1 [2, 0] 0 0 0 40 _ HR1.out (dc4) _ HS1.out HG1.out).mono ?_
                  rintro e wd ⟨rfl, hb2⟩
                  have hb : Below wp3.heap.size wp3 wd := (below_alloc (Below.refl wp3.heap.size wp3) (.cells #[.int .u8 2, .int .u8 0] 5)).trans ((HHB.out.trans hb2).mono (by rw [World.size_alloc]; omega))
                  have HB_ := Lib.hid (below_step HB.out hb)
                  clear HB
                  have HB := HB_
                  clear HB_
                  have HY_ := Lib.hid ((hb.block _ (blk_lt HY.out)).trans HY.out)
                  clear HY
                  have HY := HY_
                  clear HY_
                  clear hb hb2 HR1 HG1 HS1 HL HHB
                  go_wp2_with fail
                  (try rw [show wd.heap.size + 1 = (wd.alloc (.cells #[.int .i64 0, .int .i64 0, .int .i64 0] 23)).heap.size from (World.size_alloc wd (.cells #[.int .i64 0, .int .i64 0, .int .i64 0] 23)).symm])
                  have hb := below_alloc (Below.refl wd.heap.size wd) (.cells #[.int .i64 0, .int .i64 0, .int .i64 0] 23)
                  have HB_ := Lib.hid (below_step HB.out hb)
                  clear HB
                  have HB := HB_
                  clear HB_
                  have HY_ := Lib.hid ((hb.block _ (blk_lt HY.out)).trans HY.out)
                  clear HY
                  have HY := HY_
                  clear HY_
                  clear hb
                  generalize wd.alloc (.cells #[.int .i64 0, .int .i64 0, .int .i64 0] 23) = wp4 at *
                  have hbl := below_alloc (Below.refl wp4.heap.size wp4) (.cells #[.int .u8 9, .int .u8 1, .int .u8 4] 5)
                  refine (on31k [9, 1, 4] 3 _ _ _ (.inr (lit8 wp4 [9, 1, 4] (by decide))) (by decide) (by decide) rfl).mono ?_
                  rintro e wo ⟨g1, v1, rfl, hg1, hR1, hb1⟩
                  have hs1 := hb1.size
                  have HR1 := Lib.hid hR1
                  have HG1 := Lib.hid hg1
                  have HS1 := Lib.hid hs1
                  have HL := Lib.hid (hbl.trans (hb1.mono hbl.size))
                  have HHB := Lib.hid hb1
                  clear hbl hR1 hg1 hs1 hb1
                  go_wp2_with fail
                  refine (dec30 wo g1 _ v1 [9, 1, 4] 0 0 0 12 _ HR1.out (dc5) _ HS1.out HG1.out).mono ?_
                  rintro e wd ⟨rfl, hb2⟩
                  have hb : Below wp4.heap.size wp4 wd := (below_alloc (Below.refl wp4.heap.size wp4) (.cells #[.int .u8 9, .int .u8 1, .int .u8 4] 5)).trans ((HHB.out.trans hb2).mono (by rw [World.size_alloc]; omega))
                  have HB_ := Lib.hid (below_step HB.out hb)
                  clear HB
                  have HB := HB_
                  clear HB_
                  have HY_ := Lib.hid ((hb.block _ (blk_lt HY.out)).trans HY.out)
                  clear HY
                  have HY := HY_
                  clear HY_
                  clear hb hb2 HR1 HG1 HS1 HL HHB
                  go_wp2_with fail
                  (try rw [show wd.heap.size + 1 = (wd.alloc (.cells #[.int .i64 0, .int .i64 0, .int .i64 0] 23)).heap.size from (World.size_alloc wd (.cells #[.int .i64 0, .int .i64 0, .int .i64 0] 23)).symm])
                  have hb := below_alloc (Below.refl wd.heap.size wd) (.cells #[.int .i64 0, .int .i64 0, .int .i64 0] 23)
                  have HB_ := Lib.hid (below_step HB.out hb)
                  clear HB
                  have HB := HB_
                  clear HB_
                  have HY_ := Lib.hid ((hb.block _ (blk_lt HY.out)).trans HY.out)
                  clear HY
                  have HY := HY_
                  clear HY_
                  clear hb
                  generalize wd.alloc (.cells #[.int .i64 0, .int .i64 0, .int .i64 0] 23) = wp5 at *
                  have hbl := below_alloc (Below.refl wp5.heap.size wp5) (.cells #[.int .u8 18, .int .u8 130, .int .u8 0] 5)
                  refine (on31k [18, 130, 0] 3 _ _ _ (.inr (lit8 wp5 [18, 130, 0] (by decide))) (by decide) (by decide) rfl).mono ?_
                  rintro e wo ⟨g1, v1, rfl, hg1, hR1, hb1⟩
                  have hs1 := hb1.size
                  have HR1 := Lib.hid hR1
                  have HG1 := Lib.hid hg1
                  have HS1 := Lib.hid hs1
                  have HL := Lib.hid (hbl.trans (hb1.mono hbl.size))
                  have HHB := Lib.hid hb1
                  clear hbl hR1 hg1 hs1 hb1
                  go_wp2_with fail
                  refine (dec30 wo g1 _ v1 [18, 130, 0] 0 0 0 12 _ HR1.out (dc6) _ HS1.out HG1.out).mono ?_
                  rintro e wd ⟨rfl, hb2⟩
                  have hb : Below wp5.heap.size wp5 wd := (below_alloc (Below.refl wp5.heap.size wp5) (.cells #[.int .u8 18, .int .u8 130, .int .u8 0] 5)).trans ((HHB.out.trans hb2).mono (by rw [World.size_alloc]; omega))
                  have HB_ := Lib.hid (below_step HB.out hb)
                  clear HB
                  have HB := HB_
                  clear HB_
                  have HY_ := Lib.hid ((hb.block _ (blk_lt HY.out)).trans HY.out)
                  clear HY
                  have HY := HY_
                  clear HY_
                  clear hb hb2 HR1 HG1 HS1 HL HHB
                  go_wp2_with fail
                  (try rw [show wd.heap.size + 1 = (wd.alloc (.cells #[.int .i64 0, .int .i64 0, .int .i64 0] 23)).heap.size from (World.size_alloc wd (.cells #[.int .i64 0, .int .i64 0, .int .i64 0] 23)).symm])
                  have hb := below_alloc (Below.refl wd.heap.size wd) (.cells #[.int .i64 0, .int .i64 0, .int .i64 0] 23)
                  have HB_ := Lib.hid (below_step HB.out hb)
                  clear HB
                  have HB := HB_
                  clear HB_
                  have HY_ := Lib.hid ((hb.block _ (blk_lt HY.out)).trans HY.out)
                  clear HY
                  have HY := HY_
                  clear HY_
                  clear hb
                  generalize wd.alloc (.cells #[.int .i64 0, .int .i64 0, .int .i64 0] 23) = wp6 at *
                  refine (Decode_nil wp6).mono ?_
                  rintro e w20 ⟨rfl, hb⟩
                  have HB_ := Lib.hid (below_step HB.out hb)
                  clear HB
                  have HB := HB_
                  clear HB_
                  have HY_ := Lib.hid ((hb.block _ (blk_lt HY.out)).trans HY.out)
                  clear HY hb
                  have HY := HY_
                  clear HY_
                  have hb := below_alloc (Below.refl w20.heap.size w20) (.cells #[.int .i64 0, .int .i64 0, .int .i64 0] 23)
                  have HB_ := Lib.hid (below_step HB.out hb)
                  clear HB
                  have HB := HB_
                  clear HB_
                  have y0 : (w20.alloc (.cells #[.int .i64 0, .int .i64 0, .int .i64 0] 23)).cell? ⟨b24, 0, none⟩ = some (.int .i64 0) := blk_cell ((hb.block _ (blk_lt HY.out)).trans HY.out) 0
                  have y1 : (w20.alloc (.cells #[.int .i64 0, .int .i64 0, .int .i64 0] 23)).cell? ⟨b24, 1, none⟩ = some (.int .i64 0) := blk_cell ((hb.block _ (blk_lt HY.out)).trans HY.out) 1
                  have y2 : (w20.alloc (.cells #[.int .i64 0, .int .i64 0, .int .i64 0] 23)).cell? ⟨b24, 2, none⟩ = some (.int .i64 0) := blk_cell ((hb.block _ (blk_lt HY.out)).trans HY.out) 2
                  clear hb HY
                  go_wp2_with fail
                  refine (alive6_any _ (HRV.out _ HB.out).tabs).mono ?_
                  rintro e w21 ⟨rfl, hb⟩
                  have HB_ := Lib.hid (below_step HB.out hb)
                  clear HB
                  have HB := HB_
                  clear HB_
                  clear hb y0 y1 y2
                  go_wp2
                  go_ret
                  exact ⟨rfl, HB.out⟩
end Go.Proofs.YtamagdnlicnefaaGreatDoor
