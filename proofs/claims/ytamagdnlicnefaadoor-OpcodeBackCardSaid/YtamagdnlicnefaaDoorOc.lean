/- Opcode: of. -/
import Derived.Test.YtamagdnlicnefaaDoorOb
import Derived.Test.YtamagdnlicnefaaDoorRb
import Derived.Laws.EntriesVeiled
import Derived.Laws.Tables
namespace Go.Proofs.YtamagdnlicnefaaDoor
open Go.RowKit Go.Proofs.YtamagdnlicnefaaDoorW.PrintWords Go.Proofs.YtamagdnlicnefaaDoorW.PrintLast Go.Proofs.YtamagdnlicnefaaDoorW.PrintMore

set_option maxRecDepth 100000 in
set_option maxHeartbeats 4000000 in
theorem of23_any (k : Nat) (hk : k ≤ 10) (w : World) : Calls Tryd.prog 23 #[.int .i64 k] w fun e w' => ∃ sh rd, e = .returned (kindV k sh rd) ∧ FunsAt w' k sh rd ∧ Below w.heap.size w w' := by
  have H0 : Hid (Below w.heap.size w (w.alloc (.cells #[.int .i64 0, .int .i64 0, .nilFunc, .nilFunc] 57))) := Lib.hid (below_alloc (Below.refl _ _) _)
  have B0 : Hid ((w.alloc (.cells #[.int .i64 0, .int .i64 0, .nilFunc, .nilFunc] 57)).heap[w.heap.size]? = some (.cells #[.int .i64 0, .int .i64 0, .nilFunc, .nilFunc] 57 (0, 0))) := Lib.hid (World.alloc_heap_new w _)
  have hk2 : ((k : Int)) ≤ 10 := by omega
  go_enter Tryd.func23, Tryd.ntmps23
  go_wp2_with fail
  generalize w.alloc (.cells #[.int .i64 0, .int .i64 0, .nilFunc, .nilFunc] 57) = W0 at *
  refine (number42_any _ _ _).mono ?_
  rintro e W1 ⟨rfl, hb⟩
  have L0 := Lib.hid hb
  have H1 := Lib.hid (below_step H0.out hb)
  clear hb
  go_wp2_with fail
  refine (number42_any _ _ _).mono ?_
  rintro e W2 ⟨rfl, hb⟩
  have H2 := Lib.hid (below_step H1.out hb)
  replace L0 := Lib.hid (below_step L0.out hb)
  clear hb
  go_wp2_with fail
  refine (named_2 _).mono ?_
  rintro e W3 ⟨b2, rfl, hf, hb⟩
  have F2 := Lib.hid hf
  have H3 := Lib.hid (below_step H2.out hb)
  replace L0 := Lib.hid (below_step L0.out hb)
  clear hb hf
  go_wp2_with fail
  refine (named_3 _).mono ?_
  rintro e W4 ⟨b3, rfl, hf, hb⟩
  have F3 := Lib.hid hf
  replace F2 := Lib.hid (F2.out.below hb)
  have H4 := Lib.hid (below_step H3.out hb)
  replace L0 := Lib.hid (below_step L0.out hb)
  clear hb hf
  go_wp2_with fail
  refine (number42_any _ _ _).mono ?_
  rintro e W5 ⟨rfl, hb⟩
  replace F2 := Lib.hid (F2.out.below hb)
  replace F3 := Lib.hid (F3.out.below hb)
  have H5 := Lib.hid (below_step H4.out hb)
  replace L0 := Lib.hid (below_step L0.out hb)
  clear hb
  go_wp2_with fail
  refine (number42_any _ _ _).mono ?_
  rintro e W6 ⟨rfl, hb⟩
  replace F2 := Lib.hid (F2.out.below hb)
  replace F3 := Lib.hid (F3.out.below hb)
  have H6 := Lib.hid (below_step H5.out hb)
  replace L0 := Lib.hid (below_step L0.out hb)
  clear hb
  go_wp2_with fail
  refine (number42_any _ _ _).mono ?_
  rintro e W7 ⟨rfl, hb⟩
  replace F2 := Lib.hid (F2.out.below hb)
  replace F3 := Lib.hid (F3.out.below hb)
  have H7 := Lib.hid (below_step H6.out hb)
  replace L0 := Lib.hid (below_step L0.out hb)
  clear hb
  go_wp2_with fail
  refine (number42_any _ _ _).mono ?_
  rintro e W8 ⟨rfl, hb⟩
  replace F2 := Lib.hid (F2.out.below hb)
  replace F3 := Lib.hid (F3.out.below hb)
  have H8 := Lib.hid (below_step H7.out hb)
  replace L0 := Lib.hid (below_step L0.out hb)
  clear hb
  go_wp2_with fail
  refine (named_8 _).mono ?_
  rintro e W9 ⟨b8, rfl, hf, hb⟩
  have F8 := Lib.hid hf
  replace F2 := Lib.hid (F2.out.below hb)
  replace F3 := Lib.hid (F3.out.below hb)
  have H9 := Lib.hid (below_step H8.out hb)
  replace L0 := Lib.hid (below_step L0.out hb)
  clear hb hf
  go_wp2_with fail
  refine (named_9 _).mono ?_
  rintro e W10 ⟨b9, rfl, hf, hb⟩
  have F9 := Lib.hid hf
  replace F2 := Lib.hid (F2.out.below hb)
  replace F3 := Lib.hid (F3.out.below hb)
  replace F8 := Lib.hid (F8.out.below hb)
  have H10 := Lib.hid (below_step H9.out hb)
  replace L0 := Lib.hid (below_step L0.out hb)
  clear hb hf
  go_wp2_with fail
  refine (number42_any _ _ _).mono ?_
  rintro e W11 ⟨rfl, hb⟩
  replace F2 := Lib.hid (F2.out.below hb)
  replace F3 := Lib.hid (F3.out.below hb)
  replace F8 := Lib.hid (F8.out.below hb)
  replace F9 := Lib.hid (F9.out.below hb)
  have H11 := Lib.hid (below_step H10.out hb)
  replace L0 := Lib.hid (below_step L0.out hb)
  clear hb
  go_wp2_with (first | ((with_reducible refine gate_ (.store 97 (.tmp 3) (.tmp 15)) rfl ?_); refine store_newL 97 (.tmp 3) (.tmp 15) _ [.int .i64 0, .int .i64 0, .func (.func 61) #[] #[], .func (.func 59) #[] #[], .int .i64 (-9223372036854775808), .int .i64 9223372036854775807, .func (.func 61) #[] #[], .func (.func 59) #[] #[], .int .i64 1, .int .i64 4, .func (.func 64) #[] #[.pointer (some ⟨b2 + 2, 0, none⟩)], .func (.func 63) #[] #[.pointer (some ⟨b2, 0, none⟩), .pointer (some ⟨b2 + 1, 0, none⟩), .pointer (some ⟨b2 + 2, 0, none⟩)], .int .i64 1, .int .i64 3, .func (.func 64) #[] #[.pointer (some ⟨b3 + 2, 0, none⟩)], .func (.func 63) #[] #[.pointer (some ⟨b3, 0, none⟩), .pointer (some ⟨b3 + 1, 0, none⟩), .pointer (some ⟨b3 + 2, 0, none⟩)], .int .i64 0, .int .i64 63, .func (.func 61) #[] #[], .func (.func 59) #[] #[], .int .i64 0, .int .i64 63, .func (.func 61) #[] #[], .func (.func 59) #[] #[], .int .i64 0, .int .i64 15, .func (.func 61) #[] #[], .func (.func 59) #[] #[], .int .i64 0, .int .i64 63, .func (.func 61) #[] #[], .func (.func 59) #[] #[], .int .i64 0, .int .i64 13, .func (.func 64) #[] #[.pointer (some ⟨b8 + 2, 0, none⟩)], .func (.func 63) #[] #[.pointer (some ⟨b8, 0, none⟩), .pointer (some ⟨b8 + 1, 0, none⟩), .pointer (some ⟨b8 + 2, 0, none⟩)], .int .i64 0, .int .i64 8, .func (.func 64) #[] #[.pointer (some ⟨b9 + 2, 0, none⟩)], .func (.func 63) #[] #[.pointer (some ⟨b9, 0, none⟩), .pointer (some ⟨b9 + 1, 0, none⟩), .pointer (some ⟨b9 + 2, 0, none⟩)], .int .i64 0, .int .i64 511, .func (.func 61) #[] #[], .func (.func 59) #[] #[]] _ rfl rfl rfl rfl rfl rfl (by kernel_rfl) rfl rfl ?_) | ((with_reducible refine gate_ (.indexAddr 97 (.tmp 3) (.tmp 16)) rfl ?_); refine Wrapped.h ?_))
  have hB : W11.heap[w.heap.size]? = some (.cells #[.int .i64 0, .int .i64 0, .nilFunc, .nilFunc] 57 (0, 0)) := (L0.out.block _ (blk_lt B0.out)).trans B0.out
  have HB2 : Hid (∀ o, (W11.alloc o).heap[w.heap.size]? = some (.cells #[.int .i64 0, .int .i64 0, .nilFunc, .nilFunc] 57 (0, 0))) := Lib.hid (fun o => by rw [Below.heap_alloc _ _ _ (blk_lt hB)]; exact hB)
  have hk' : k = 0 ∨ k = 1 ∨ k = 2 ∨ k = 3 ∨ k = 4 ∨ k = 5 ∨ k = 6 ∨ k = 7 ∨ k = 8 ∨ k = 9 ∨ k = 10 := by omega
  clear hk hk2 hB
  have fin : ∀ (k : Nat) (o : Obj) (W : World) (sh rd : Value), FunsAt W11 k sh rd → Fr (fun i => i = w.heap.size) (W11.alloc o) W → FunsAt W k sh rd ∧ Below w.heap.size w W := fun k o W sh rd h1 h2 =>
    ⟨(h1.below (below_alloc (Below.refl _ _) o)).fr57 (HB2.out o) h2, (below_alloc H11.out o).trans (h2.below (below_alloc H11.out o).size (fun i hi e => by omega))⟩
  have FIN := Lib.hid fin
  clear fin
  rcases hk' with rfl | rfl | rfl | rfl | rfl | rfl | rfl | rfl | rfl | rfl | rfl
  all_goals as_aux_lemma =>
    refine Wrapped.mk ?_
    go_wp2_with ((with_reducible refine gate_ (.store 57 (.tmp 2) (.tmp 18)) rfl ?_); refine Wrapped.h ?_)
    refine Wrapped.mk ?_
    refine store_row 57 (.tmp 2) (.tmp 18) w.heap.size _ [_, _, _, _] _ rfl rfl rfl rfl rfl rfl (HB2.out _) (by kernel_rfl) rfl rfl ?_
    intro W hF hW hz
    go_wp2
    have hN := FIN.out
    first
      | exact bodyPost_ret (results_cell_row rfl _ _ w.heap.size 57 _ (0, 0) _ rfl hW Tryd.underlying57 rfl (by kernel_rfl)) rfl ⟨_, _, rfl, hN _ _ _ _ _ (number_funs rfl) hF⟩
      | exact bodyPost_ret (results_cell_row rfl _ _ w.heap.size 57 _ (0, 0) _ rfl hW Tryd.underlying57 rfl (by kernel_rfl)) rfl ⟨_, _, rfl, hN _ _ _ _ _ F2.out hF⟩
      | exact bodyPost_ret (results_cell_row rfl _ _ w.heap.size 57 _ (0, 0) _ rfl hW Tryd.underlying57 rfl (by kernel_rfl)) rfl ⟨_, _, rfl, hN _ _ _ _ _ F3.out hF⟩
      | exact bodyPost_ret (results_cell_row rfl _ _ w.heap.size 57 _ (0, 0) _ rfl hW Tryd.underlying57 rfl (by kernel_rfl)) rfl ⟨_, _, rfl, hN _ _ _ _ _ F8.out hF⟩
      | exact bodyPost_ret (results_cell_row rfl _ _ w.heap.size 57 _ (0, 0) _ rfl hW Tryd.underlying57 rfl (by kernel_rfl)) rfl ⟨_, _, rfl, hN _ _ _ _ _ F9.out hF⟩
end Go.Proofs.YtamagdnlicnefaaDoor
