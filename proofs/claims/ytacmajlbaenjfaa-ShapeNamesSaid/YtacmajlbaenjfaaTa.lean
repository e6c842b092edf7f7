/- The chapter's examples: of, sig, alive. -/
import Derived.Test.YtacmajlbaenjfaaSw
namespace Go.Proofs.Ytacmajlbaenjfaa
open Go.RowKit Go.Shelf Go.Proofs.YtacmajlbaenjfaaW.PrintWords Go.Proofs.YtacmajlbaenjfaaW.PrintLast Go.Proofs.YtacmajlbaenjfaaW.PrintMore

theorem of41 (W : World) (s : ByteArray) (xs : List Int) (hs : s.size ≤ 1000) (hx : (typesT s.data.toList).1 = xs) :
    Calls Try.prog 41 #[.string s] W fun e w' => ∃ A c, e = .returned (.slice A xs.length c) ∧ w'.ownsRow W.heap.size 3 1 (.slice A xs.length c) xs.length (nums .i64 xs) ∧ Below W.heap.size W w' := by
  have hk := Types48_any W s (by omega)
  rw [hx] at hk
  generalize (typesT s.data.toList).2 = er at *
  have HK := Lib.hid hk
  clear hk hx hs
  go_enter Try.func41, Try.ntmps41
  go_wp2_with (go_at_call 48; refine HK.out.mono ?_; rintro e w1 ⟨u, rfl, hu, hb⟩; obtain ⟨A, c, rfl⟩ := own_slice hu; have HU := Lib.hid hu; have HB := Lib.hid hb; clear hu hb)
  go_ret
  exact ⟨A, c, rfl, HU.out, HB.out⟩
set_option maxRecDepth 100000 in
set_option maxHeartbeats 2000000 in
theorem sig42 (w : World) (s t : ByteArray) (xs ys : List Int) (hs : s.size ≤ 1000) (ht : t.size ≤ 1000) (hx : (typesT s.data.toList).1 = xs) (hy : (typesT t.data.toList).1 = ys) :
    Calls Try.prog 42 #[.string s, .string t] w fun e w' => ∃ A c B d, e = .returned (.agg #[.slice A xs.length c, .slice B ys.length d]) ∧ xs.length ≤ c ∧ (Kd.int .i64).C w' A xs.length xs ∧ ys.length ≤ d ∧ (Kd.int .i64).C w' B ys.length ys ∧ Below w.heap.size w w' := by
  have hB0 := below_alloc (Below.refl w.heap.size w) (.cells #[.slice none 0 0, .slice none 0 0] 26)
  have hE0 := World.alloc_heap_new w (.cells #[.slice none 0 0, .slice none 0 0] 26)
  have HB0 := Lib.hid hB0
  have HE0 := Lib.hid hE0
  have H1 := Lib.hid (fun W => of41 W s xs hs hx)
  have H2 := Lib.hid (fun W => of41 W t ys ht hy)
  clear hB0 hE0 hs ht hx hy
  go_enter Try.func42, Try.ntmps42
  go_upto_region 1 with (fail)
  generalize w.alloc (.cells #[.slice none 0 0, .slice none 0 0] 26) = w0 at *
  go_wp2_with fail
  refine (H1.out _).mono ?_
  rintro e w1 ⟨A, c, rfl, hu, hb1⟩
  have HU1 := Lib.hid hu
  have HE1 := Lib.hid ((hb1.block _ (blk_lt HE0.out)).trans HE0.out)
  have HB1 := Lib.hid (below_then HB0.out HB0.out.size hb1)
  clear hu hb1
  go_wp2_with fail
  refine (H2.out _).mono ?_
  rintro e w2 ⟨B, d, rfl, hu2, hb2⟩
  have HU2 := Lib.hid (pw_own_below HU1.out hb2)
  have HV2 := Lib.hid hu2
  have E := (hb2.block _ (blk_lt HE1.out)).trans HE1.out
  have HE2 := Lib.hid E
  have HB2 := Lib.hid (below_then HB1.out HB1.out.size hb2)
  have a0 := blk_cell E 0
  have a1 := blk_cell E 1
  have a2 := blk_frozen E 0
  have a3 := blk_frozen E 1
  simp only [List.getElem?_toArray, List.getElem?_cons_zero, List.getElem?_cons_succ] at a0 a1
  clear hu2 hb2 E
  go_wp2
  have F := blk_set HE2.out 0 (.slice A xs.length c)
  have G := blk_set F 1 (.slice B ys.length d)
  simp only [List.setIfInBounds_toArray, List.set_cons_zero, List.set_cons_succ] at G
  have y0 := blk_cell G 0
  have y1 := blk_cell G 1
  simp only [List.getElem?_toArray, List.getElem?_cons_zero, List.getElem?_cons_succ] at y0 y1
  have hfs := ((Fr.refl (fun i => i = w.heap.size) w2).set ⟨w.heap.size, 0, none⟩ (.slice A xs.length c) (fun _ => rfl)).set ⟨w.heap.size, 1, none⟩ (.slice B ys.length d) (fun _ => rfl)
  have hu5 := own_fr HU2.out hfs (fun b hb e => own_ne HU2.out HE2.out (by decide) (by rw [← e]; exact hb.symm))
  have hv5 := own_fr HV2.out hfs (fun b hb e => own_ne HV2.out HE2.out (by decide) (by rw [← e]; exact hb.symm))
  exact bodyPost_ret (v := .agg #[.slice A xs.length c, .slice B ys.length d]) (by simp [results, Try.results42, go_sem, y0, y1]) rfl ⟨A, c, B, d, rfl, (own_CI hu5).2.1, (own_CI hu5).2.2, (own_CI hv5).2.1, (own_CI hv5).2.2, (HB2.out.setCell (Nat.le_refl _) _).setCell (Nat.le_refl _) _⟩

theorem ex_enc1 : encSh [1, 2, 3] = ([3, 36], 0) := by decide +kernel
theorem ex_enc2 : encSh [2, 2, 2, 2, 1] = ([5, 85, 0], 0) := by decide +kernel
theorem ex_dec : (decSh [1, 4] 0).2.1 = 60 := by decide +kernel
theorem ex_show1 : (⟨(showG [1, 4] [2]).toArray⟩ : ByteArray) = ⟨#[73, 80, 62, 82]⟩ := by decide +kernel
theorem ex_show2 : (⟨(showG [] []).toArray⟩ : ByteArray) = ⟨#[62]⟩ := by decide +kernel
theorem ex_chk1 : (if shapeOk [4] then 0 else 60 : Int) = 60 := by decide +kernel
theorem ex_chk2 : (if sigOk [] [4] then 0 else 61 : Int) = 61 := by decide +kernel
end Go.Proofs.Ytacmajlbaenjfaa
