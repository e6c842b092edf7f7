/- New: a heap, or an error. -/
import Derived.Test.YtnomjjhocblkkaaJc
import Derived.Deep.RegionHeld3
namespace Go.Proofs.Ytnomjjhocblkkaa
open Go.RowKit Go.Shelf Go.Proofs.YtnomjjhocblkkaaW.PrintWords Go.Proofs.YtnomjjhocblkkaaW.PrintLast Go.Proofs.YtnomjjhocblkkaaW.PrintMore
open Go.Proofs.Ytnomjjhocblkkaa.PHeapSound

theorem make67 (w : World) : (Instr.makeMap 67 none).run Try.prog w = .ok (.map (some w.heap.size)) (w.alloc (.map #[] 0)) := rfl
attribute [local go_sem] make67
theorem hinfo39 : (Try.prog.info? 39).map (fun i => (i.zero, i.size, i.bytes)) = some (some (.slice none 0 0), 1, 24) := by kernel_rfl

/-- What New takes. -/
def newOk (sh : List (List Int)) (q : Int) : Bool := decide (0 ≤ q) && decide (q ≤ 1048576) && decide (sh.length ≤ 64) && sh.all shapeOk

set_option maxRecDepth 100000 in
set_option maxHeartbeats 1000000 in
theorem New_bad (w : World) (A : Option Addr) (c : Nat) (sh : List (List Int)) (q : Int) (hC : (Kd.slice 3 (Kd.int .i64)).C w A sh.length sh) (h : newOk sh q = false) :
    Calls Try.prog 9 #[.slice A sh.length c, .int .i64 q] w fun e w' => e = .returned (.tuple #[.pointer none, .int .i64 150]) ∧ Below w.heap.size w w' := by
  by_cases h1 : q < 0
  · clear hC h
    go_enter Try.func9, Try.ntmps9
    go_wp2
    go_ret2
    exact ⟨rfl, Below.refl _ _⟩
  by_cases h2 : 1048576 < q
  · clear hC h
    go_enter Try.func9, Try.ntmps9
    go_wp2
    go_ret2
    exact ⟨rfl, Below.refl _ _⟩
  by_cases h3 : 64 < sh.length
  · have h3' : (64 : Int) < (sh.length : Int) := by omega
    clear hC h
    go_enter Try.func9, Try.ntmps9
    go_wp2
    go_ret2
    exact ⟨rfl, Below.refl _ _⟩
  have ha : sh.all shapeOk = false := by
    unfold newOk at h
    rw [decide_eq_true (by omega), decide_eq_true (by omega), decide_eq_true (by omega)] at h
    simpa using h
  have HI := has33_any w A c sh hC (by omega)
  rw [ha] at HI
  have HI := Lib.hid HI
  have h3' : ¬ (64 : Int) < (sh.length : Int) := by omega
  clear hC h ha
  go_enter Try.func9, Try.ntmps9
  go_wp2_with (go_at_call 33; refine HI.out.mono ?_; rintro e w3 ⟨rfl, hb3⟩; have HB3 := Lib.hid hb3; clear hb3)
  go_ret2
  exact ⟨rfl, HB3.out⟩

set_option maxRecDepth 100000 in
set_option maxHeartbeats 1000000 in
theorem New_any (w : World) (A : Option Addr) (c : Nat) (sh : List (List Int)) (q : Int) (hC : (Kd.slice 3 (Kd.int .i64)).C w A sh.length sh) (h : newOk sh q = true) :
    Calls Try.prog 9 #[.slice A sh.length c, .int .i64 q] w fun e w' => ∃ g m R, e = .returned (.tuple #[.pointer (some ⟨g, 0, none⟩), .int .i64 0]) ∧ HOwn w.heap.size w' g m ⟨sh, q, 0, [], []⟩ R ∧ (∀ i, R i → w.heap.size ≤ i) ∧ Below w.heap.size w w' := by
  obtain ⟨⟨⟨h1, h2⟩, h3⟩, ha⟩ : ((0 ≤ q ∧ q ≤ 1048576) ∧ sh.length ≤ 64) ∧ sh.all shapeOk = true := by
    unfold newOk at h
    simpa using h
  have HI := has33_any w A c sh hC (by omega)
  rw [ha] at HI
  have HI := Lib.hid HI
  have HC := Lib.hid hC
  have HA := Lib.hid (List.all_eq_true.1 ha)
  have h1' : ¬ q < 0 := by omega
  have h2' : ¬ 1048576 < q := by omega
  have h3' : ¬ (64 : Int) < (sh.length : Int) := by omega
  clear hC h ha
  go_enter Try.func9, Try.ntmps9
  go_wp2_with (go_at_call 33; refine HI.out.mono ?_; rintro e w3 ⟨rfl, hb3⟩; have HB3 := Lib.hid hb3; clear hb3)
  go_loopw [32] (fun i W => ∃ (k : Nat) (v : Value), i = .int .i64 k ∧ k ≤ sh.length ∧ Aside0 (W.heap[w3.heap.size + 1]? = some (.cells #[v, .int .i64 q, .int .i64 0, .slice none 0 0, .map (some w3.heap.size)] 69 (0, 0))) ∧ Aside0 (W.heap[w3.heap.size]? = some (.map #[] 0)) ∧ Aside0 (Kd.S (Kd.slice 3 (Kd.int .i64)) 39 W (w3.heap.size + 2) (fun _ => True) v (sh.take k)) ∧ Aside0 (Below w.heap.size w W) ∧ Aside0 (w3.heap.size + 2 ≤ W.heap.size)) (fun i _ => sh.length - (intOf i).toNat)
  case atStart =>
    have e1 := World.alloc_heap_new (w3.alloc (.map #[] 0)) (.cells #[.slice none 0 0, .int .i64 q, .int .i64 0, .slice none 0 0, .map (some w3.heap.size)] 69)
    rw [World.size_alloc] at e1
    refine ⟨0, .slice none 0 0, rfl, by omega, Aside0.mk e1, Aside0.mk ((World.alloc_heap_old' _ _ (by simp)).trans (World.alloc_heap_new w3 _)), Aside0.mk (Kd.S_nil _ _ _ _ _), Aside0.mk ((HB3.out.alloc HB3.out.size _).alloc (by have := HB3.out.size; simp; omega) _), Aside0.mk (by simp)⟩
  case round =>
    obtain ⟨k, v, rfl, hk, HG, HM, HS, HB, HZ⟩ := hrel
    by_cases hlt : k < sh.length
    · have hlt2 : (k : Int) < (sh.length : Int) := by omega
      obtain ⟨ae, Ae, ce, rfl, e1, hce, hCe⟩ := at_L1 (Kd.C_below HC.out HB.out) (k : Int) (by omega) (by omega)
      rw [Int.toNat_natCast] at e1
      have HR := Lib.hid (rdL1_mem hlt)
      have hok := HA.out (rd_L1 sh k) (List.mem_of_getElem? HR.out)
      obtain ⟨⟨n1, n2⟩, _⟩ : ((1 ≤ (rd_L1 sh k).length) ∧ (rd_L1 sh k).length ≤ 16) ∧ _ := by unfold shapeOk at hok; simpa using hok
      have HCl := Lib.hid (fun W (h : Below wr.heap.size wr W) => Clone34_any W Ae ce (rd_L1 sh k) (Kd.C_below hCe h) n1 n2)
      have hlk : (sh.take k).length = k := by rw [List.length_take]; omega
      obtain ⟨Av, cv, rfl⟩ := Kd.R_slice (Kd.S_R HS.out)
      rw [hlk] at HG HS
      clear hlk
      have g0 := blk_cell HG.out 0
      simp only [List.getElem?_toArray, List.getElem?_cons_zero] at g0
      clear hCe hok
      generalize rd_L1 sh k = x at *
      go_wp2
      have HGb := Lib.hid HG.out
      have HVB := Lib.hid (fun j (hj : (Value.slice Av k cv).ownBlock = some j) => (⟨((Kd.S_R (Kd.S_bound HS.out)).1 j hj).2.1, ((Kd.S_R (Kd.S_bound HS.out)).1 j hj).2.2.1⟩ : w3.heap.size + 2 ≤ j ∧ j < wr.heap.size))
      clear HI
      -- region 8: 12 operations: 0:move 1:move 2:nilCheck 3:fieldAddr 4:load 5:move 6:call 7:buildSlice 8:call 9:nilCheck 10:fieldAddr 11:store
      refine start_ (S := fun w' => w'.cell? ⟨w3.heap.size + 1, 0, none⟩ = some (.slice Av k cv)) (ds := [11]) #[false, false, false, false, false, false, false, false, false, false, false, false] (by kernel_rfl) rfl rfl g0 (fun hHeld => ?_)
      refine pure_ (i := 0) (N := some 36) (v := ?_) (a' := ?_) #[true, false, false, false, false, false, false, false, false, false, false, false] rfl rfl (by kernel_rfl) (fun _ _ _ h => h) (Or.inl ⟨by rfl, ?_⟩) ?_ ?_
      rotate_left
      · intro w'
        go_simp
        with_reducible rfl
      rotate_left
      · simp only [Act.put, List.setIfInBounds_toArray, List.set_cons_zero, List.set_cons_succ]
        rfl
      refine pure_ (i := 1) (N := some 37) (v := ?_) (a' := ?_) #[true, true, false, false, false, false, false, false, false, false, false, false] rfl rfl (by kernel_rfl) (fun _ _ _ h => h) (Or.inl ⟨by rfl, ?_⟩) ?_ ?_
      rotate_left
      · intro w'
        go_simp
        with_reducible rfl
      rotate_left
      · simp only [Act.put, List.setIfInBounds_toArray, List.set_cons_zero, List.set_cons_succ]
        rfl
      refine pure_ (i := 2) (N := some 38) (v := ?_) (a' := ?_) #[true, true, true, false, false, false, false, false, false, false, false, false] rfl rfl (by kernel_rfl) (fun _ _ _ h => h) (Or.inl ⟨by rfl, ?_⟩) ?_ ?_
      rotate_left
      · intro w'
        go_simp
        with_reducible rfl
      rotate_left
      · simp only [Act.put, List.setIfInBounds_toArray, List.set_cons_zero, List.set_cons_succ]
        rfl
      refine pure_ (i := 3) (N := some 39) (v := ?_) (a' := ?_) #[true, true, true, true, false, false, false, false, false, false, false, false] rfl rfl (by kernel_rfl) (fun _ _ _ h => h) (Or.inl ⟨by rfl, ?_⟩) ?_ ?_
      rotate_left
      · intro w'
        go_simp
        with_reducible rfl
      rotate_left
      · simp only [Act.put, List.setIfInBounds_toArray, List.set_cons_zero, List.set_cons_succ]
        rfl
      refine pure_ (i := 5) (N := some 41) (v := ?_) (a' := ?_) #[true, true, true, true, false, true, false, false, false, false, false, false] rfl rfl (by kernel_rfl) (fun _ _ _ h => h) (Or.inl ⟨by rfl, ?_⟩) ?_ ?_
      rotate_left
      · intro w'
        go_simp
        with_reducible rfl
      rotate_left
      · simp only [Act.put, List.setIfInBounds_toArray, List.set_cons_zero, List.set_cons_succ]
        rfl
      refine take_ (i := 4) (N := some 40) (v := ?_) (a' := ?_) #[true, true, true, true, true, true, false, false, false, false, false, false] rfl rfl (by kernel_rfl) (fun _ _ _ h => h) (Or.inl ⟨by rfl, ?_⟩) hHeld ?_ ?_
      rotate_left
      · rintro w' h1
        go_simp
        with_reducible rfl
      rotate_left
      · simp only [Act.put, List.setIfInBounds_toArray, List.set_cons_zero, List.set_cons_succ]
        rfl
      refine one_ (i := 6) (N := some 42) #[true, true, true, true, true, true, true, false, false, false, false, false] rfl rfl (by kernel_rfl) (by decide) (fun K hK => ?_)
      refine goes_ Try.func34 (by kernel_rfl) rfl #[.slice Ae x.length ce] (by rfl) rfl rfl (by simp only [List.map_toArray, List.map_cons, List.map_nil]; rfl) ?_
      refine (HCl.out _ (below_drew (Below.refl _ _))).mono ?_
      rintro e w4 ⟨A4, c4, rfl, ho4, hb4⟩
      refine ⟨_, rfl, ?_⟩
      have HO4 := Lib.hid ho4
      have HB4 := Lib.hid (Below.trans (below_drew (Below.refl wr.heap.size wr)) hb4)
      have z4 := pw_cell_below hb4 g0
      clear ho4 hb4
      refine hK.out _ _ z4 (fun hHeld => ?_)
      clear hK K
      refine norm_ (a' := ?_) ?_ ?_
      rotate_left
      · show Act.put _ (some 42) _ = _
        simp only [Act.put, List.setIfInBounds_toArray, List.set_cons_zero, List.set_cons_succ]
        rfl
      refine one_ (i := 7) (N := some 43) #[true, true, true, true, true, true, true, true, false, false, false, false] rfl rfl (by kernel_rfl) (by decide) (fun K hK => ?_)
      refine value_ (w1 := ?_) (v := ?_) (by rfl) rfl ?_ ?_
      rotate_left 2
      · go_simp
        constructor
        · rfl
        · rfl
      refine hK.out _ _ (pw_cell_below (below_alloc (Below.refl _ _) _) z4) (fun hHeld => ?_)
      clear hK K
      refine norm_ (a' := ?_) ?_ ?_
      rotate_left
      · show Act.put _ (some 43) _ = _
        simp only [Act.put, List.setIfInBounds_toArray, List.set_cons_zero, List.set_cons_succ]
        rfl
      refine one_ (i := 8) (N := some 44) #[true, true, true, true, true, true, true, true, true, false, false, false] rfl rfl (by kernel_rfl) (by decide) (fun K hK => ?_)
      refine Kd.S_append_step (W := w4) (w0 := w4) (Kd.slice 3 (Kd.int .i64)) (w3.heap.size + 2) (by kernel_rfl) (.tmp 40) (.tmp 43) 22 39 (.slice none 0 0) 24 rfl Try.underlying22 hinfo39 rfl (by decide) (by decide) (.slice Av k cv) (sh.take k) x [.slice A4 x.length c4] (fun _ => True) (fun j => wr.heap.size ≤ j) rfl rfl (Kd.M_row (Kd.R_of_own (h1 := fun _ => rfl) (own_mono HO4.out HZ.out) (fun j hj => (World.ownsRow.lt HO4.out j hj).1))) (fun j hj => ⟨trivial, fun e => absurd (HVB.out j e.symm).2 (Nat.not_lt.2 hj)⟩) (fun _ _ => trivial) (Kd.S_below (Kd.S_mono (Kd.S_bound HS.out) (fun j hj => ⟨trivial, Nat.not_le.2 hj.2.2.1⟩)) HB4.out) (Below.refl _ _) (Nat.le_trans HZ.out HB4.out.size) (by rw [List.length_take]; omega) ?_
      intro v1 w1 hs hb hg hat
      obtain ⟨A1, c1, rfl⟩ := Kd.R_slice (Kd.S_R hs)
      have HS1 := Lib.hid hs
      have HGr := Lib.hid hg
      have HBw := Lib.hid hb
      have G1 := (hg.block (w3.heap.size + 1) (Nat.lt_of_lt_of_le (Nat.lt_of_succ_le HZ.out) HB4.out.size) (fun e => absurd (HVB.out _ e.symm).1 (by omega))).trans ((HB4.out.block _ (Nat.lt_of_succ_le HZ.out)).trans HGb.out)
      have HG1 := Lib.hid G1
      have z5 := blk_cell G1 0
      have zf := blk_frozen G1 0
      have z6 : w1.cell? ⟨w3.heap.size + 1, 0, none⟩ = some (.slice Av k cv) := z5
      refine hK.out _ _ z6 (fun hHeld => ?_)
      clear hK K
      refine norm_ (a' := ?_) ?_ ?_
      rotate_left
      · show Act.put _ (some 44) _ = _
        simp only [Act.put, List.setIfInBounds_toArray, List.set_cons_zero, List.set_cons_succ]
        rfl
      refine pure_ (i := 9) (N := some 45) (v := ?_) (a' := ?_) #[true, true, true, true, true, true, true, true, true, true, false, false] rfl rfl (by kernel_rfl) (fun _ _ _ h => h) (Or.inl ⟨by rfl, ?_⟩) ?_ ?_
      rotate_left
      · intro w'
        go_simp
        with_reducible rfl
      rotate_left
      · simp only [Act.put, List.setIfInBounds_toArray, List.set_cons_zero, List.set_cons_succ]
        rfl
      refine pure_ (i := 10) (N := some 46) (v := ?_) (a' := ?_) #[true, true, true, true, true, true, true, true, true, true, true, false] rfl rfl (by kernel_rfl) (fun _ _ _ h => h) (Or.inl ⟨by rfl, ?_⟩) ?_ ?_
      rotate_left
      · intro w'
        go_simp
        with_reducible rfl
      rotate_left
      · simp only [Act.put, List.setIfInBounds_toArray, List.set_cons_zero, List.set_cons_succ]
        rfl
      refine last_ (i := 11) (N := none) #[true, true, true, true, true, true, true, true, true, true, true, true] rfl rfl (by kernel_rfl) (by decide) (fun K hK => ?_)
      refine skip_ (w1 := ?_) (by rfl) rfl ?_ ?_
      rotate_left 1
      · go_simp
        rfl
      refine hK.out _ _ ?_
      clear hK K
      refine done_ (by kernel_rfl) ?_
      go_wp2
      have hsz := HB3.out.size
      have hlt1 := blk_lt HG1.out
      have hB1 : Below w.heap.size w w1 := (below_step HB.out HB4.out).trans ⟨HBw.out.os, HBw.out.tape, HBw.out.output, HBw.out.size, fun i hi => HBw.out.block i (by omega)⟩
      have e2 : sh.take (k + 1) = sh.take k ++ [x] := by rw [List.take_add_one, HR.out]; rfl
      have e3 : (sh.take k ++ [x]).length = k + 1 := by rw [List.length_append, List.length_take]; simp; omega
      have hS1 := HS1.out
      rw [e3] at hS1
      have hS2 := Kd.S_step (w1 := w1.setCell ⟨w3.heap.size + 1, 0, none⟩ (.slice A1 (k + 1) c1)) (Kd.S_bound hS1) (fun j hj _ => Below.heap_setCell _ _ _ _ (by have := hj.2.1; simp; omega))
      refine ⟨⟨k + 1, .slice A1 (k + 1) c1, rfl, by omega, Aside0.mk ?_, Aside0.mk ?_, Aside0.mk ?_, Aside0.mk (hB1.setCell (by simp; omega) _), Aside0.mk ?_⟩, ?_⟩
      · simpa using blk_set HG1.out 0 (.slice A1 (k + 1) c1)
      · have hz := HZ.out
        have h4 := HB4.out.size
        exact (Below.heap_setCell _ _ _ _ (by simp)).trans ((HGr.out.block w3.heap.size (by omega) (fun e => absurd (HVB.out _ e.symm).1 (by omega))).trans ((HB4.out.block _ (by omega)).trans HM.out))
      · rw [e2]
        exact Kd.S_mono hS2 (fun _ _ => trivial)
      · have h5 := HBw.out.size
        have h4 := HB4.out.size
        have hz := HZ.out
        simp; omega
      · show sh.length - ((k : Int) + 1).toNat < sh.length - (k : Int).toNat
        omega
    · obtain rfl : k = sh.length := by omega
      go_wp2
      go_ret2
      have hsz := HB3.out.size
      have hS := HS.out
      rw [List.take_length] at hS
      obtain ⟨Av, cv, rfl⟩ := Kd.R_slice (Kd.S_R hS)
      have hbd := Kd.S_bound hS
      refine ⟨w3.heap.size + 1, w3.heap.size, fun i => w3.heap.size + 2 ≤ i ∧ i < wr.heap.size, rfl, ⟨⟨Av, cv, none, 0, #[], 0, HG.out, ?_, Nat.le_refl _, ?_, Kd.F_nil _ _ _, HM.out, rfl⟩, ?_, ?_, fun i hi => hi.2, by omega, by omega⟩, fun i hi => by omega, HB.out⟩
      · exact (Kd.R_reads' (Kd.S_R hS)).2.1
      · exact Kd.F_mono (Kd.S_F hbd) (fun i hi => ⟨hi.2.1, hi.2.2.1⟩)
      · omega
      · omega
end Go.Proofs.Ytnomjjhocblkkaa
