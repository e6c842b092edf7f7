/- Opcode: operands. -/
import Derived.Test.YtamagdnlicnefaaGreatDoorKnO1
import Derived.Test.YtamagdnlicnefaaGreatDoorKnV1
namespace Go.Proofs.YtamagdnlicnefaaGreatDoor
open Go.RowKit Go.Shelf Go.Proofs.YtamagdnlicnefaaGreatDoorW.PrintWords Go.Proofs.YtamagdnlicnefaaGreatDoorW.PrintLast Go.Proofs.YtamagdnlicnefaaGreatDoorW.PrintMore
attribute [local go_sem] Oper.semAt_some

def XAt (W : World) (bx : Nat) (op a b : Int) : Prop := W.heap[bx]? = some (.cells #[.int .i64 op, .int .i64 a, .int .i64 b] 23 (0, 0))
def BothAt (W : World) (bb bs bx : Nat) (k1 k2 : Nat) : Prop :=
  W.heap[bb]? = some (.cells #[.slice (some ⟨bs, 0, none⟩) 2 2] 111 (0, 0)) ∧ W.heap[bs]? = some (.cells #[.int .i64 k1, .pointer (some ⟨bx, 1, none⟩), .int .i64 k2, .pointer (some ⟨bx, 2, none⟩)] 81 (0, 0))
set_option maxRecDepth 100000 in
set_option maxHeartbeats 4000000 in
theorem operands26_any (bx : Nat) (op a b : Int) (w : World) (hx : XAt w bx op a b) : Calls Tryz.prog 44 #[.pointer (some ⟨bx, 0, none⟩)] w fun e w' => ∃ bb bs, e = .returned (.func (.func 64) #[] #[.pointer (some ⟨bb, 0, none⟩)]) ∧ BothAt w' bb bs bx (ka op) (kb op) ∧ w.heap.size ≤ bb ∧ w.heap.size ≤ bs ∧ Below w.heap.size w w' := by
  have HX := Lib.hid hx
  have c0 := blk_cell hx 0
  simp only [List.getElem?_toArray, List.getElem?_cons_zero] at c0
  have HK := Lib.hid (Kinds21_any op)
  clear hx
  go_enter Tryz.func44, Tryz.ntmps44
  go_wp2_with (go_at_call 12; (with_reducible refine (HK.out _).mono ?_); rintro e w1 ⟨rfl, hb1⟩; have HB1 := Lib.hid hb1; clear hb1)
  go_region
  all_goals
    go_wp2
    go_ret
  · refine ⟨w1.heap.size + 1, w1.heap.size, rfl, ⟨?_, ?_⟩, by have := HB1.out.size; omega, HB1.out.size, below_drew (below_alloc (below_alloc HB1.out _) _)⟩
    · have := World.alloc_heap_new (w1.alloc (.cells #[.int .i64 (ka op : Int), .pointer (some ⟨bx, 1, none⟩), .int .i64 (kb op : Int), .pointer (some ⟨bx, 2, none⟩)] 81)) (.cells #[.slice (some ⟨w1.heap.size, 0, none⟩) 2 2] 111)
      rw [World.size_alloc] at this
      exact this
    · exact (Below.heap_alloc _ _ _ (by simp)).trans (World.alloc_heap_new w1 _)
  · refine ⟨w1.heap.size, w1.heap.size + 1, rfl, ⟨?_, ?_⟩, HB1.out.size, by have := HB1.out.size; omega, below_drew (below_alloc (below_alloc HB1.out _) _)⟩
    · exact (Below.heap_alloc _ _ _ (by simp)).trans (World.alloc_heap_new w1 _)
    · have := World.alloc_heap_new (w1.alloc (.cells #[.slice (some ⟨w1.heap.size + 1, 0, none⟩) 2 2] 111)) (.cells #[.int .i64 (ka op : Int), .pointer (some ⟨bx, 1, none⟩), .int .i64 (kb op : Int), .pointer (some ⟨bx, 2, none⟩)] 81)
      rw [World.size_alloc] at this
      exact this
def opsL (k1 k2 : Nat) : List (Nat × Nat) := (if k1 = 0 then [] else [(k1, 1)]) ++ (if k2 = 0 then [] else [(k2, 2)])
def opEnc (bx : Nat) (x : Nat × Nat) : Array Value := #[.agg #[.int .i64 x.1, .pointer (some ⟨bx, x.2, none⟩)]]
def opsTo (k1 k2 j : Nat) : List (Nat × Nat) := if j = 0 then [] else if j = 1 then (if k1 = 0 then [] else [(k1, 1)]) else opsL k1 k2
theorem opsTo_pre (k1 k2 j : Nat) : opsTo k1 k2 j <+: opsL k1 k2 := by
  unfold opsTo
  split
  · exact List.nil_prefix
  · split
    · exact ⟨_, rfl⟩
    · exact List.prefix_rfl
theorem opsTo_1 (k1 k2 : Nat) (h : k1 ≠ 0) : opsTo k1 k2 0 ++ [(k1, 1)] = opsTo k1 k2 1 := by simp [opsTo, h]
theorem opsTo_1n (k1 k2 : Nat) (h : k1 = 0) : opsTo k1 k2 0 = opsTo k1 k2 1 := by simp [opsTo, h]
theorem opsTo_2 (k1 k2 : Nat) (h : k2 ≠ 0) : opsTo k1 k2 1 ++ [(k2, 2)] = opsTo k1 k2 2 := by simp [opsTo, opsL, h]
theorem opsTo_2n (k1 k2 : Nat) (h : k2 = 0) : opsTo k1 k2 1 = opsTo k1 k2 2 := by simp [opsTo, opsL, h]
theorem BothAt.fr {X Y : World} {S : Nat → Prop} {bb bs bx k1 k2 : Nat} (h : BothAt X bb bs bx k1 k2) (hf : Fr S X Y) (h1 : ¬ S bb) (h2 : ¬ S bs) : BothAt Y bb bs bx k1 k2 := ⟨hf.at h.1 h1, hf.at h.2 h2⟩
theorem BothAt.kp {X Y : World} {bb bs bx k1 k2 : Nat} (h : BothAt X bb bs bx k1 k2) (hk : KpO (fun i => i = bb ∨ i = bs) X Y) : BothAt Y bb bs bx k1 k2 := ⟨hk.at (.inl rfl) h.1, hk.at (.inr rfl) h.2⟩
@[local go_sem] theorem wide_fn2 (f : Nat) : Fence.wide.fn f = True := rfl
@[local go_sem] theorem wide_depth2 : Fence.wide.depth.isSome = false := rfl
set_option maxRecDepth 100000 in
set_option maxHeartbeats 4000000 in
theorem operands47_seq (n bb bs bx k1 k2 B : Nat) (w : World) (hw : BothAt w bb bs bx k1 k2) :
    SeqG Fence.wide n Tryz.prog 64 #[.pointer (some ⟨bb, 0, none⟩)] (opEnc bx) (fun pre x _ => pre ++ [x] <+: opsL k1 k2) (fun i => i = bb ∨ i = bs) (fun xs => xs = opsL k1 k2) (fun pre => pre <+: opsL k1 k2) B w := by
  intro l J Jx W hB hbel hJ hJx hY h0
  have hb0 := hw.fr (S := fun _ => False) (Fr.of_below hbel) id id
  have HJ := Lib.hid hJ
  have HJx := Lib.hid hJx
  have HY := Lib.hid hY
  clear hJ hJx hY hw hbel hB
  have hc := blk_cell hb0.1 0
  simp only [List.getElem?_toArray, List.getElem?_cons_zero] at hc
  refine callsIn_of_wp Tryz.func64 rfl trivial ?_ rfl
  simp only [Tryz.ntmps64, List.size_toArray, List.length_cons, List.length_nil, Nat.reduceAdd, Nat.reduceSub, Array.replicate_succ, Array.replicate_zero, List.push_toArray, List.append_toArray, List.nil_append, List.cons_append]
  gi_wp2
  gi_loopw [7] (fun i wr => ∃ j : Nat, i = .int .i64 j ∧ j ≤ 2 ∧ Hid (J (opsTo k1 k2 j) wr) ∧ Hid (BothAt wr bb bs bx k1 k2)) (fun i _ => 2 - (intOf i).toNat)
  case atStart => exact ⟨0, rfl, by omega, Lib.hid h0, Lib.hid hb0⟩
  case round =>
    clear hb0 h0 hc
    obtain ⟨j, rfl, hj, HJr, HBr⟩ := hrel
    have hc := blk_cell HBr.out.1 0
    have hr := HBr.out.2
    have r0 := blk_cell hr 0
    have r1 := blk_cell hr 1
    have r2 := blk_cell hr 2
    have r3 := blk_cell hr 3
    have hlt := blk_lt hr
    simp only [List.getElem?_toArray, List.getElem?_cons_zero, List.getElem?_cons_succ] at hc r0 r1 r2 r3
    clear hr
    have hj3 : j = 0 ∨ j = 1 ∨ j = 2 := by omega
    rcases hj3 with rfl | rfl | rfl
    · by_cases hk : k1 = 0
      · have hk0 : ((k1 : Int) != 0) = false := by simp [hk]
        have HN := Lib.hid (opsTo_1n k1 k2 hk)
        have hw2 : Below wr.heap.size wr (wr.alloc (.cells #[.int .i64 k1, .pointer (some ⟨bx, 1, none⟩)] 81)) := below_alloc (Below.refl _ _) _
        have HF : Hid (Fr (fun _ => False) wr (wr.alloc (.cells #[.int .i64 k1, .pointer (some ⟨bx, 1, none⟩)] 81))) := Lib.hid (Fr.of_below hw2)
        clear hk hw2
        gi_wp2
        refine ⟨⟨1, rfl, by omega, Lib.hid ?_, Lib.hid (HBr.out.fr HF.out id id)⟩, by simp [intOf]⟩
        rw [← HN.out]
        exact HJ.out _ _ _ HJr.out (HF.out.mono (fun _ _ h => h.elim))
      · have hk0 : ((k1 : Int) != 0) = true := by simp [hk]
        have HN := Lib.hid (opsTo_1 k1 k2 hk)
        have hw2 : Below wr.heap.size wr (wr.alloc (.cells #[.int .i64 k1, .pointer (some ⟨bx, 1, none⟩)] 81)) := below_alloc (Below.refl _ _) _
        have HF : Hid (Fr (fun _ => False) wr (wr.alloc (.cells #[.int .i64 k1, .pointer (some ⟨bx, 1, none⟩)] 81))) := Lib.hid (Fr.of_below hw2)
        have hJ2 := HJ.out _ _ _ HJr.out (HF.out.mono (fun _ _ h => h.elim))
        obtain ⟨fn, tmps, assign, body, hy, hR⟩ := HY.out (opsTo k1 k2 0) (k1, 1) _ hJ2 (by rw [HN.out]; exact opsTo_pre k1 k2 1)
        have HB2 := Lib.hid (HBr.out.fr HF.out id id)
        have HR := Lib.hid (roundIn_wide0 (m := n - 1) hR)
        unfold opEnc at hy
        simp only at hy
        clear hk hw2 hJ2 hR
        gi_wp2
        refine HR.out.mono ?_
        rintro e W3 (⟨rfl, hJ3, hk3⟩ | ⟨rfl, hJx3, hk3⟩)
        · rw [HN.out] at hJ3
          have HJ3 := Lib.hid hJ3
          have HB3 := Lib.hid (HB2.out.kp hk3)
          clear hJ3 hk3 hy
          gi_wp2
          exact ⟨⟨1, rfl, by omega, HJ3, HB3⟩, by simp [intOf]⟩
        · rw [HN.out] at hJx3
          have HJ3 := Lib.hid hJx3
          clear hJx3 hk3 hy
          gi_wp2
          refine bodyPost_ret (results_none rfl _ _ _) rfl ?_
          exact ⟨⟨_, rfl⟩, .inr ⟨_, opsTo_pre k1 k2 1, HJ3.out⟩⟩
    · by_cases hk : k2 = 0
      · have hk0 : ((k2 : Int) != 0) = false := by simp [hk]
        have HN := Lib.hid (opsTo_2n k1 k2 hk)
        have hw2 : Below wr.heap.size wr (wr.alloc (.cells #[.int .i64 k2, .pointer (some ⟨bx, 2, none⟩)] 81)) := below_alloc (Below.refl _ _) _
        have HF : Hid (Fr (fun _ => False) wr (wr.alloc (.cells #[.int .i64 k2, .pointer (some ⟨bx, 2, none⟩)] 81))) := Lib.hid (Fr.of_below hw2)
        clear hk hw2
        gi_wp2
        refine ⟨⟨2, rfl, by omega, Lib.hid ?_, Lib.hid (HBr.out.fr HF.out id id)⟩, by simp [intOf]⟩
        rw [← HN.out]
        exact HJ.out _ _ _ HJr.out (HF.out.mono (fun _ _ h => h.elim))
      · have hk0 : ((k2 : Int) != 0) = true := by simp [hk]
        have HN := Lib.hid (opsTo_2 k1 k2 hk)
        have hw2 : Below wr.heap.size wr (wr.alloc (.cells #[.int .i64 k2, .pointer (some ⟨bx, 2, none⟩)] 81)) := below_alloc (Below.refl _ _) _
        have HF : Hid (Fr (fun _ => False) wr (wr.alloc (.cells #[.int .i64 k2, .pointer (some ⟨bx, 2, none⟩)] 81))) := Lib.hid (Fr.of_below hw2)
        have hJ2 := HJ.out _ _ _ HJr.out (HF.out.mono (fun _ _ h => h.elim))
        obtain ⟨fn, tmps, assign, body, hy, hR⟩ := HY.out (opsTo k1 k2 1) (k2, 2) _ hJ2 (by rw [HN.out]; exact opsTo_pre k1 k2 2)
        have HB2 := Lib.hid (HBr.out.fr HF.out id id)
        have HR := Lib.hid (roundIn_wide0 (m := n - 1) hR)
        unfold opEnc at hy
        simp only at hy
        clear hk hw2 hJ2 hR
        gi_wp2
        refine HR.out.mono ?_
        rintro e W3 (⟨rfl, hJ3, hk3⟩ | ⟨rfl, hJx3, hk3⟩)
        · rw [HN.out] at hJ3
          have HJ3 := Lib.hid hJ3
          have HB3 := Lib.hid (HB2.out.kp hk3)
          clear hJ3 hk3 hy
          gi_wp2
          exact ⟨⟨2, rfl, by omega, HJ3, HB3⟩, by simp [intOf]⟩
        · rw [HN.out] at hJx3
          have HJ3 := Lib.hid hJx3
          clear hJx3 hk3 hy
          gi_wp2
          refine bodyPost_ret (results_none rfl _ _ _) rfl ?_
          exact ⟨⟨_, rfl⟩, .inr ⟨_, opsTo_pre k1 k2 2, HJ3.out⟩⟩
    · clear r0 r1 r2 r3 hlt
      gi_wp2
      go_end0
      exact ⟨⟨_, rfl⟩, .inl ⟨_, rfl, HJr.out⟩⟩
end Go.Proofs.YtamagdnlicnefaaGreatDoor
