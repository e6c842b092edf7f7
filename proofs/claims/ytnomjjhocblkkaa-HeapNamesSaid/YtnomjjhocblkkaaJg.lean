/- alive: the chapter's examples. -/
import Derived.Test.YtnomjjhocblkkaaJf
import Derived.Deep.RegionHeld3
import Derived.Deep.DeepCutAuto
import Derived.Deep.CutBlock
namespace Go.Proofs.Ytnomjjhocblkkaa
open Go.RowKit Go.Shelf Go.Proofs.YtnomjjhocblkkaaW.PrintWords Go.Proofs.YtnomjjhocblkkaaW.PrintLast Go.Proofs.YtnomjjhocblkkaaW.PrintMore
open Go.Proofs.Ytnomjjhocblkkaa.PHeapSound

set_option maxRecDepth 100000 in
set_option maxHeartbeats 4000000 in
theorem alive_any (w : World) : Calls Try.prog 8 #[] w fun e w' => e = .returned (.bool true) ∧ Below w.heap.size w w' := by
  go_enter Try.func8, Try.ntmps8
  go_upto_region 3 with (first | (go_at_call 27; refine (aBegun _).mono ?_; rintro e w1 ⟨g, m, R1, rfl, ho1, _, hb1⟩; have HO := Lib.hid ho1; have HW := Lib.hid hb1; clear ho1 hb1) | (go_at_call 11; refine (aMake0 HO.out).mono ?_; rintro e v1 ⟨rfl, ⟨_, ho_, _⟩, hf_⟩; have HWn := Lib.hid (HW.out.trans (hf_.below HW.out.size (fun i hi e => absurd HO.out.lo.1 (by rw [← e]; exact Nat.not_le.2 hi)))); clear HW; have HW := HWn; clear HWn; have H_ := Lib.hid (ho_); clear HO; have HO := H_; clear H_; clear ho_ hf_))
  have hb_ := below_alloc (Below.refl v1.heap.size v1) (.cells #[.int .i64 2, .int .i64 1] 32)
  have HBa_ := Lib.hid (World.alloc_heap_new v1 (.cells #[.int .i64 2, .int .i64 1] 32))
  have HNa : Hid (v1.heap.size ≠ g ∧ v1.heap.size ≠ m) := Lib.hid ⟨Nat.ne_of_gt HO.out.glt.1, Nat.ne_of_gt HO.out.glt.2⟩
  have H_ := Lib.hid (HO.out.below hb_)
  clear HO
  have HO := H_
  clear H_
  have H_ := Lib.hid (below_then HW.out HW.out.size hb_)
  clear HW
  have HW := H_
  clear H_
  clear hb_
  generalize v1.alloc (.cells #[.int .i64 2, .int .i64 1] 32) = v2 at *
  have HBa := HBa_
  clear HBa_
  generalize v1.heap.size = ba at *
  go_upto_region 4 with (first | (go_at_call 11; refine (aMake1 HO.out).mono ?_; rintro e v3 ⟨rfl, ⟨_, ho_, _⟩, hf_⟩; have HWn := Lib.hid (HW.out.trans (hf_.below HW.out.size (fun i hi e => absurd HO.out.lo.1 (by rw [← e]; exact Nat.not_le.2 hi)))); clear HW; have HW := HWn; clear HWn; have HBa' := Lib.hid ((hf_.block ba (blk_lt HBa.out) HNa.out.1).trans HBa.out); clear HBa; have HBa := HBa'; clear HBa'; have H_ := Lib.hid (ho_); clear HO; have HO := H_; clear H_; clear ho_ hf_))
  have hb_ := below_alloc (Below.refl v3.heap.size v3) (.cells #[.int .i64 2, .int .i64 2] 32)
  have HBb_ := Lib.hid (World.alloc_heap_new v3 (.cells #[.int .i64 2, .int .i64 2] 32))
  have HNb : Hid (v3.heap.size ≠ g ∧ v3.heap.size ≠ m) := Lib.hid ⟨Nat.ne_of_gt HO.out.glt.1, Nat.ne_of_gt HO.out.glt.2⟩
  have H_ := Lib.hid (HO.out.below hb_)
  clear HO
  have HO := H_
  clear H_
  have H_ := Lib.hid (below_then HW.out HW.out.size hb_)
  clear HW
  have HW := H_
  clear H_
  have HBa' := Lib.hid ((hb_.block ba (blk_lt HBa.out)).trans HBa.out)
  clear HBa
  have HBa := HBa'
  clear HBa'
  clear hb_
  generalize v3.alloc (.cells #[.int .i64 2, .int .i64 2] 32) = v4 at *
  have HBb := HBb_
  clear HBb_
  generalize v3.heap.size = bb at *
  go_upto_region 5 with (first | (go_at_call 11; refine (aMake2 HO.out).mono ?_; rintro e v5 ⟨rfl, ⟨_, ho_, _⟩, hf_⟩; have HWn := Lib.hid (HW.out.trans (hf_.below HW.out.size (fun i hi e => absurd HO.out.lo.1 (by rw [← e]; exact Nat.not_le.2 hi)))); clear HW; have HW := HWn; clear HWn; have HBa' := Lib.hid ((hf_.block ba (blk_lt HBa.out) HNa.out.1).trans HBa.out); clear HBa; have HBa := HBa'; clear HBa'; have HBb' := Lib.hid ((hf_.block bb (blk_lt HBb.out) HNb.out.1).trans HBb.out); clear HBb; have HBb := HBb'; clear HBb'; have H_ := Lib.hid (ho_); clear HO; have HO := H_; clear H_; clear ho_ hf_))
  have hb_ := below_alloc (Below.refl v5.heap.size v5) (.cells #[.int .i64 0, .int .i64 0] 32)
  have H_ := Lib.hid (HO.out.below hb_)
  clear HO
  have HO := H_
  clear H_
  have H_ := Lib.hid (below_then HW.out HW.out.size hb_)
  clear HW
  have HW := H_
  clear H_
  have HBa' := Lib.hid ((hb_.block ba (blk_lt HBa.out)).trans HBa.out)
  clear HBa
  have HBa := HBa'
  clear HBa'
  have HBb' := Lib.hid ((hb_.block bb (blk_lt HBb.out)).trans HBb.out)
  clear HBb
  have HBb := HBb'
  clear HBb'
  clear hb_
  generalize v5.alloc (.cells #[.int .i64 0, .int .i64 0] 32) = v6 at *
  go_upto_region 6 with (first | (go_at_call 16; refine (ref_any _ _).mono ?_; rintro e v7 ⟨rfl, hb_⟩; have H_ := Lib.hid (HO.out.below hb_); clear HO; have HO := H_; clear H_; have H_ := Lib.hid (below_then HW.out HW.out.size hb_); clear HW; have HW := H_; clear H_; have HBa' := Lib.hid ((hb_.block ba (blk_lt HBa.out)).trans HBa.out); clear HBa; have HBa := HBa'; clear HBa'; have HBb' := Lib.hid ((hb_.block bb (blk_lt HBb.out)).trans HBb.out); clear HBb; have HBb := HBb'; clear HBb'; clear hb_) | (go_at_call 15; refine (aGet1 HO.out).mono ?_; rintro e v8 ⟨rfl, hb_⟩; have H_ := Lib.hid (HO.out.below hb_); clear HO; have HO := H_; clear H_; have H_ := Lib.hid (below_then HW.out HW.out.size hb_); clear HW; have HW := H_; clear H_; have HBa' := Lib.hid ((hb_.block ba (blk_lt HBa.out)).trans HBa.out); clear HBa; have HBa := HBa'; clear HBa'; have HBb' := Lib.hid ((hb_.block bb (blk_lt HBb.out)).trans HBb.out); clear HBb; have HBb := HBb'; clear HBb'; clear hb_))
  have hb_ := below_alloc (Below.refl v8.heap.size v8) (.cells #[.int .i64 1, .int .i64 0] 32)
  have HBc_ := Lib.hid (World.alloc_heap_new v8 (.cells #[.int .i64 1, .int .i64 0] 32))
  have HNc : Hid (v8.heap.size ≠ g ∧ v8.heap.size ≠ m) := Lib.hid ⟨Nat.ne_of_gt HO.out.glt.1, Nat.ne_of_gt HO.out.glt.2⟩
  have H_ := Lib.hid (HO.out.below hb_)
  clear HO
  have HO := H_
  clear H_
  have H_ := Lib.hid (below_then HW.out HW.out.size hb_)
  clear HW
  have HW := H_
  clear H_
  have HBa' := Lib.hid ((hb_.block ba (blk_lt HBa.out)).trans HBa.out)
  clear HBa
  have HBa := HBa'
  clear HBa'
  have HBb' := Lib.hid ((hb_.block bb (blk_lt HBb.out)).trans HBb.out)
  clear HBb
  have HBb := HBb'
  clear HBb'
  clear hb_
  generalize v8.alloc (.cells #[.int .i64 1, .int .i64 0] 32) = v9 at *
  have HBc := HBc_
  clear HBc_
  generalize v8.heap.size = bc at *
  go_upto_region 7 with (first | (go_at_call 16; refine (ref_any _ _).mono ?_; rintro e v10 ⟨rfl, hb_⟩; have H_ := Lib.hid (HO.out.below hb_); clear HO; have HO := H_; clear H_; have H_ := Lib.hid (below_then HW.out HW.out.size hb_); clear HW; have HW := H_; clear H_; have HBa' := Lib.hid ((hb_.block ba (blk_lt HBa.out)).trans HBa.out); clear HBa; have HBa := HBa'; clear HBa'; have HBb' := Lib.hid ((hb_.block bb (blk_lt HBb.out)).trans HBb.out); clear HBb; have HBb := HBb'; clear HBb'; have HBc' := Lib.hid ((hb_.block bc (blk_lt HBc.out)).trans HBc.out); clear HBc; have HBc := HBc'; clear HBc'; clear hb_) | (go_at_call 15; refine (aGet2 HO.out).mono ?_; rintro e v11 ⟨rfl, hb_⟩; have H_ := Lib.hid (HO.out.below hb_); clear HO; have HO := H_; clear H_; have H_ := Lib.hid (below_then HW.out HW.out.size hb_); clear HW; have HW := H_; clear H_; have HBa' := Lib.hid ((hb_.block ba (blk_lt HBa.out)).trans HBa.out); clear HBa; have HBa := HBa'; clear HBa'; have HBb' := Lib.hid ((hb_.block bb (blk_lt HBb.out)).trans HBb.out); clear HBb; have HBb := HBb'; clear HBb'; have HBc' := Lib.hid ((hb_.block bc (blk_lt HBc.out)).trans HBc.out); clear HBc; have HBc := HBc'; clear HBc'; clear hb_))
  have hb_ := below_alloc (Below.refl v11.heap.size v11) (.cells #[.int .i64 0, .int .i64 0] 32)
  have H_ := Lib.hid (HO.out.below hb_)
  clear HO
  have HO := H_
  clear H_
  have H_ := Lib.hid (below_then HW.out HW.out.size hb_)
  clear HW
  have HW := H_
  clear H_
  have HBa' := Lib.hid ((hb_.block ba (blk_lt HBa.out)).trans HBa.out)
  clear HBa
  have HBa := HBa'
  clear HBa'
  have HBb' := Lib.hid ((hb_.block bb (blk_lt HBb.out)).trans HBb.out)
  clear HBb
  have HBb := HBb'
  clear HBb'
  have HBc' := Lib.hid ((hb_.block bc (blk_lt HBc.out)).trans HBc.out)
  clear HBc
  have HBc := HBc'
  clear HBc'
  clear hb_
  generalize v11.alloc (.cells #[.int .i64 0, .int .i64 0] 32) = v12 at *
  go_upto_region 8 with (first | (go_at_call 16; refine (ref_any _ _).mono ?_; rintro e v13 ⟨rfl, hb_⟩; have H_ := Lib.hid (HO.out.below hb_); clear HO; have HO := H_; clear H_; have H_ := Lib.hid (below_then HW.out HW.out.size hb_); clear HW; have HW := H_; clear H_; have HBa' := Lib.hid ((hb_.block ba (blk_lt HBa.out)).trans HBa.out); clear HBa; have HBa := HBa'; clear HBa'; have HBb' := Lib.hid ((hb_.block bb (blk_lt HBb.out)).trans HBb.out); clear HBb; have HBb := HBb'; clear HBb'; have HBc' := Lib.hid ((hb_.block bc (blk_lt HBc.out)).trans HBc.out); clear HBc; have HBc := HBc'; clear HBc'; clear hb_) | (go_at_call 15; refine (aGet3 HO.out).mono ?_; rintro e v14 ⟨rfl, hb_⟩; have H_ := Lib.hid (HO.out.below hb_); clear HO; have HO := H_; clear H_; have H_ := Lib.hid (below_then HW.out HW.out.size hb_); clear HW; have HW := H_; clear H_; have HBa' := Lib.hid ((hb_.block ba (blk_lt HBa.out)).trans HBa.out); clear HBa; have HBa := HBa'; clear HBa'; have HBb' := Lib.hid ((hb_.block bb (blk_lt HBb.out)).trans HBb.out); clear HBb; have HBb := HBb'; clear HBb'; have HBc' := Lib.hid ((hb_.block bc (blk_lt HBc.out)).trans HBc.out); clear HBc; have HBc := HBc'; clear HBc'; clear hb_))
  have hb_ := below_alloc (Below.refl v14.heap.size v14) (.cells #[.int .i64 0, .int .i64 0] 32)
  have H_ := Lib.hid (HO.out.below hb_)
  clear HO
  have HO := H_
  clear H_
  have H_ := Lib.hid (below_then HW.out HW.out.size hb_)
  clear HW
  have HW := H_
  clear H_
  have HBa' := Lib.hid ((hb_.block ba (blk_lt HBa.out)).trans HBa.out)
  clear HBa
  have HBa := HBa'
  clear HBa'
  have HBb' := Lib.hid ((hb_.block bb (blk_lt HBb.out)).trans HBb.out)
  clear HBb
  have HBb := HBb'
  clear HBb'
  have HBc' := Lib.hid ((hb_.block bc (blk_lt HBc.out)).trans HBc.out)
  clear HBc
  have HBc := HBc'
  clear HBc'
  clear hb_
  generalize v14.alloc (.cells #[.int .i64 0, .int .i64 0] 32) = v15 at *
  go_upto_region 9 with (first | (go_at_call 16; refine (ref_any _ _).mono ?_; rintro e v16 ⟨rfl, hb_⟩; have H_ := Lib.hid (HO.out.below hb_); clear HO; have HO := H_; clear H_; have H_ := Lib.hid (below_then HW.out HW.out.size hb_); clear HW; have HW := H_; clear H_; have HBa' := Lib.hid ((hb_.block ba (blk_lt HBa.out)).trans HBa.out); clear HBa; have HBa := HBa'; clear HBa'; have HBb' := Lib.hid ((hb_.block bb (blk_lt HBb.out)).trans HBb.out); clear HBb; have HBb := HBb'; clear HBb'; have HBc' := Lib.hid ((hb_.block bc (blk_lt HBc.out)).trans HBc.out); clear HBc; have HBc := HBc'; clear HBc'; clear hb_) | (go_at_call 15; refine (aGet4 HO.out).mono ?_; rintro e v17 ⟨rfl, hb_⟩; have H_ := Lib.hid (HO.out.below hb_); clear HO; have HO := H_; clear H_; have H_ := Lib.hid (below_then HW.out HW.out.size hb_); clear HW; have HW := H_; clear H_; have HBa' := Lib.hid ((hb_.block ba (blk_lt HBa.out)).trans HBa.out); clear HBa; have HBa := HBa'; clear HBa'; have HBb' := Lib.hid ((hb_.block bb (blk_lt HBb.out)).trans HBb.out); clear HBb; have HBb := HBb'; clear HBb'; have HBc' := Lib.hid ((hb_.block bc (blk_lt HBc.out)).trans HBc.out); clear HBc; have HBc := HBc'; clear HBc'; clear hb_))
  have hb_ := below_alloc (Below.refl v17.heap.size v17) (.cells #[.int .i64 0, .int .i64 0] 32)
  have H_ := Lib.hid (HO.out.below hb_)
  clear HO
  have HO := H_
  clear H_
  have H_ := Lib.hid (below_then HW.out HW.out.size hb_)
  clear HW
  have HW := H_
  clear H_
  have HBa' := Lib.hid ((hb_.block ba (blk_lt HBa.out)).trans HBa.out)
  clear HBa
  have HBa := HBa'
  clear HBa'
  have HBb' := Lib.hid ((hb_.block bb (blk_lt HBb.out)).trans HBb.out)
  clear HBb
  have HBb := HBb'
  clear HBb'
  have HBc' := Lib.hid ((hb_.block bc (blk_lt HBc.out)).trans HBc.out)
  clear HBc
  have HBc := HBc'
  clear HBc'
  clear hb_
  generalize v17.alloc (.cells #[.int .i64 0, .int .i64 0] 32) = v18 at *
  go_upto_region 10 with (first | (go_at_call 16; refine (ref_any _ _).mono ?_; rintro e v19 ⟨rfl, hb_⟩; have H_ := Lib.hid (HO.out.below hb_); clear HO; have HO := H_; clear H_; have H_ := Lib.hid (below_then HW.out HW.out.size hb_); clear HW; have HW := H_; clear H_; have HBa' := Lib.hid ((hb_.block ba (blk_lt HBa.out)).trans HBa.out); clear HBa; have HBa := HBa'; clear HBa'; have HBb' := Lib.hid ((hb_.block bb (blk_lt HBb.out)).trans HBb.out); clear HBb; have HBb := HBb'; clear HBb'; have HBc' := Lib.hid ((hb_.block bc (blk_lt HBc.out)).trans HBc.out); clear HBc; have HBc := HBc'; clear HBc'; clear hb_) | (go_at_call 13; refine (aSet1 HO.out).mono ?_; rintro e v20 ⟨rfl, ho_, hf_⟩; have HWn := Lib.hid (HW.out.trans (hf_.below HW.out.size (fun i hi e => absurd HO.out.lo.2 (by rw [← e]; exact Nat.not_le.2 hi)))); clear HW; have HW := HWn; clear HWn; have HBa' := Lib.hid ((hf_.block ba (blk_lt HBa.out) HNa.out.2).trans HBa.out); clear HBa; have HBa := HBa'; clear HBa'; have HBb' := Lib.hid ((hf_.block bb (blk_lt HBb.out) HNb.out.2).trans HBb.out); clear HBb; have HBb := HBb'; clear HBb'; have HBc' := Lib.hid ((hf_.block bc (blk_lt HBc.out) HNc.out.2).trans HBc.out); clear HBc; have HBc := HBc'; clear HBc'; have H_ := Lib.hid (ho_); clear HO; have HO := H_; clear H_; clear ho_ hf_))
  go_upto_region 11 with (first | (go_at_call 16; refine (ref_any _ _).mono ?_; rintro e v21 ⟨rfl, hb_⟩; have H_ := Lib.hid (HO.out.below hb_); clear HO; have HO := H_; clear H_; have H_ := Lib.hid (below_then HW.out HW.out.size hb_); clear HW; have HW := H_; clear H_; have HBa' := Lib.hid ((hb_.block ba (blk_lt HBa.out)).trans HBa.out); clear HBa; have HBa := HBa'; clear HBa'; have HBb' := Lib.hid ((hb_.block bb (blk_lt HBb.out)).trans HBb.out); clear HBb; have HBb := HBb'; clear HBb'; have HBc' := Lib.hid ((hb_.block bc (blk_lt HBc.out)).trans HBc.out); clear HBc; have HBc := HBc'; clear HBc'; clear hb_) | (go_at_call 13; refine (aSet2 HO.out).mono ?_; rintro e v22 ⟨rfl, ho_, hf_⟩; have HWn := Lib.hid (HW.out.trans (hf_.below HW.out.size (fun i hi e => absurd HO.out.lo.2 (by rw [← e]; exact Nat.not_le.2 hi)))); clear HW; have HW := HWn; clear HWn; have HBa' := Lib.hid ((hf_.block ba (blk_lt HBa.out) HNa.out.2).trans HBa.out); clear HBa; have HBa := HBa'; clear HBa'; have HBb' := Lib.hid ((hf_.block bb (blk_lt HBb.out) HNb.out.2).trans HBb.out); clear HBb; have HBb := HBb'; clear HBb'; have HBc' := Lib.hid ((hf_.block bc (blk_lt HBc.out) HNc.out.2).trans HBc.out); clear HBc; have HBc := HBc'; clear HBc'; have H_ := Lib.hid (ho_); clear HO; have HO := H_; clear H_; clear ho_ hf_))
  go_upto_region 12 with (first | (go_at_call 16; refine (ref_any _ _).mono ?_; rintro e v23 ⟨rfl, hb_⟩; have H_ := Lib.hid (HO.out.below hb_); clear HO; have HO := H_; clear H_; have H_ := Lib.hid (below_then HW.out HW.out.size hb_); clear HW; have HW := H_; clear H_; have HBa' := Lib.hid ((hb_.block ba (blk_lt HBa.out)).trans HBa.out); clear HBa; have HBa := HBa'; clear HBa'; have HBb' := Lib.hid ((hb_.block bb (blk_lt HBb.out)).trans HBb.out); clear HBb; have HBb := HBb'; clear HBb'; have HBc' := Lib.hid ((hb_.block bc (blk_lt HBc.out)).trans HBc.out); clear HBc; have HBc := HBc'; clear HBc'; clear hb_) | (go_at_call 13; refine (aSet3 HO.out).mono ?_; rintro e v24 ⟨rfl, ho_, hf_⟩; have HWn := Lib.hid (HW.out.trans (hf_.below HW.out.size (fun i hi e => absurd HO.out.lo.2 (by rw [← e]; exact Nat.not_le.2 hi)))); clear HW; have HW := HWn; clear HWn; have HBa' := Lib.hid ((hf_.block ba (blk_lt HBa.out) HNa.out.2).trans HBa.out); clear HBa; have HBa := HBa'; clear HBa'; have HBb' := Lib.hid ((hf_.block bb (blk_lt HBb.out) HNb.out.2).trans HBb.out); clear HBb; have HBb := HBb'; clear HBb'; have HBc' := Lib.hid ((hf_.block bc (blk_lt HBc.out) HNc.out.2).trans HBc.out); clear HBc; have HBc := HBc'; clear HBc'; have H_ := Lib.hid (ho_); clear HO; have HO := H_; clear H_; clear ho_ hf_))
  have a0 := blk_cell HBa.out 0
  have a1 := blk_cell HBa.out 1
  have b0 := blk_cell HBb.out 0
  have b1 := blk_cell HBb.out 1
  have c0 := blk_cell HBc.out 0
  have c1 := blk_cell HBc.out 1
  simp only [List.getElem?_toArray, List.getElem?_cons_zero, List.getElem?_cons_succ] at a0 a1 b0 b1 c0 c1
  clear HBa HBb HBc HNa HNb HNc HO
  simp only [List.append_eq, List.cons_append, List.nil_append]
  go_region_held3 (fun w' => w'.cell? ⟨ba, 0, none⟩ = some (.int .i64 2) ∧ w'.cell? ⟨ba, 1, none⟩ = some (.int .i64 1) ∧ w'.cell? ⟨bb, 0, none⟩ = some (.int .i64 2) ∧ w'.cell? ⟨bb, 1, none⟩ = some (.int .i64 2) ∧ w'.cell? ⟨bc, 0, none⟩ = some (.int .i64 1) ∧ w'.cell? ⟨bc, 1, none⟩ = some (.int .i64 0)) (go_keep) (((first | (go_at_call 16; (with_reducible refine (ref_any _ _).mono ?_)) | (go_at_call 28; (with_reducible refine (vInt_any _ _).mono ?_))); rintro e w_ ⟨rfl, hb_⟩; replace a0 := pw_cell_below hb_ a0; replace a1 := pw_cell_below hb_ a1; replace b0 := pw_cell_below hb_ b0; replace b1 := pw_cell_below hb_ b1; replace c0 := pw_cell_below hb_ c0; replace c1 := pw_cell_below hb_ c1; have HW_ : Hid (Below w.heap.size w w_) := Lib.hid (by first | exact below_step HW.out hb_ | exact below_step (below_drew HW.out) hb_); clear HW; have HW := HW_; clear HW_ hb_))
  go_wp2
  go_ret
  exact ⟨rfl, HW.out⟩
end Go.Proofs.Ytnomjjhocblkkaa
