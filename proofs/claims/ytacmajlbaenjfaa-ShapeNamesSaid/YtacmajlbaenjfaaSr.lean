/- Signatures: EncodeSignature, ShowSignature, Same. -/
import Derived.Test.YtacmajlbaenjfaaS3
namespace Go.Proofs.Ytacmajlbaenjfaa
open Go.RowKit Go.Shelf Go.Proofs.YtacmajlbaenjfaaW.PrintWords Go.Proofs.YtacmajlbaenjfaaW.PrintLast Go.Proofs.YtacmajlbaenjfaaW.PrintMore

/-- What EncodeSignature answers: the bytes, the error. -/
def encG (xs ys : List Int) : List Int × Int := if sigOk xs ys then (packL xs ++ packL ys, 0) else ([], 61)
def showG (xs ys : List Int) : List UInt8 := if sigOk xs ys then textL xs ++ [62] ++ textL ys else []
def chkG (xs ys : List Int) : Int := if sigOk xs ys then 0 else 61
theorem sigOk_len {xs ys : List Int} (h : sigOk xs ys = true) : xs.length + ys.length ≤ 64 := by
  unfold sigOk at h; simp at h; omega
theorem sigOk_args {xs ys : List Int} (h : sigOk xs ys = true) : ∀ x ∈ xs, 1 ≤ x ∧ x ≤ 4 := by
  unfold sigOk at h
  intro x hx
  simp at h
  have := h.1.2 x hx
  unfold tyB knownT at this
  simp at this
  omega
theorem sigOk_res {xs ys : List Int} (h : sigOk xs ys = true) : ∀ x ∈ ys, 1 ≤ x ∧ x ≤ 3 := by
  unfold sigOk at h
  intro x hx
  simp at h
  have := h.2 x hx
  unfold tyB knownT at this
  simp at this
  omega
theorem packL_len {xs : List Int} : (packL xs).length ≤ 25 := by
  unfold packL bytesL
  rw [List.length_append, List.length_take, arrL_length, encI_length]
  have := (VP.wid_pos xs.length).2
  omega
theorem textL_len (xs : List Int) : (textL xs).length ≤ 1024 := by
  unfold textL
  split
  · rename_i h; simpa using h.2
  · simp
theorem sig_yes (w : World) (A B : Option Addr) (c d : Nat) (xs ys : List Int) (hC : (Kd.int .i64).C w A xs.length xs) (hD : (Kd.int .i64).C w B ys.length ys) (hx : xs.length ≤ 1000) (hy : ys.length ≤ 1000) (h : sigOk xs ys = true) :
    Calls Try.prog 27 #[.agg #[.slice A xs.length c, .slice B ys.length d]] w fun e w' => e = .returned (.int .i64 0) ∧ Below w.heap.size w w' := by
  have := CheckSig_any w A B c d xs ys hC hD hx hy
  rwa [if_pos h] at this
theorem sig_no (w : World) (A B : Option Addr) (c d : Nat) (xs ys : List Int) (hC : (Kd.int .i64).C w A xs.length xs) (hD : (Kd.int .i64).C w B ys.length ys) (hx : xs.length ≤ 1000) (hy : ys.length ≤ 1000) (h : sigOk xs ys = false) :
    Calls Try.prog 27 #[.agg #[.slice A xs.length c, .slice B ys.length d]] w fun e w' => e = .returned (.int .i64 61) ∧ Below w.heap.size w w' := by
  have := CheckSig_any w A B c d xs ys hC hD hx hy
  rwa [if_neg (by rw [h]; decide)] at this

set_option maxRecDepth 100000 in
set_option maxHeartbeats 2000000 in
theorem EncSig30_any (w : World) (A B : Option Addr) (c d : Nat) (xs ys : List Int) (hC : (Kd.int .i64).C w A xs.length xs) (hD : (Kd.int .i64).C w B ys.length ys) (hx : xs.length ≤ 1000) (hy : ys.length ≤ 1000) :
    Calls Try.prog 30 #[.agg #[.slice A xs.length c, .slice B ys.length d]] w fun e w' => ∃ u, e = .returned (.tuple #[u, .int .i64 (encG xs ys).2]) ∧ w'.ownsRow w.heap.size 5 1 u (encG xs ys).1.length (nums .u8 (encG xs ys).1) ∧ Below w.heap.size w w' := by
  have hB0 := below_alloc (Below.refl w.heap.size w) (.cells #[.slice A xs.length c, .slice B ys.length d] 26)
  have hE := World.alloc_heap_new w (.cells #[.slice A xs.length c, .slice B ys.length d] 26)
  have HB0 := Lib.hid hB0
  have HE := Lib.hid hE
  clear hB0 hE
  cases h : sigOk xs ys
  · have e : encG xs ys = ([], 61) := by unfold encG; rw [h]; rfl
    rw [e]
    have HK := Lib.hid (fun W (hb : Below w.heap.size w W) => sig_no W A B c d xs ys (Kd.C_below hC hb) (Kd.C_below hD hb) hx hy h)
    clear hC hD h e
    go_enter Try.func30, Try.ntmps30
    go_wp2_with (go_at_call 27; refine (HK.out _ HB0.out).mono ?_; rintro e w1 ⟨rfl, hb⟩; have HB1 := Lib.hid (below_then HB0.out HB0.out.size hb); clear hb)
    go_ret2
    exact ⟨_, rfl, World.ownsRow_nil _ _ _ _, HB1.out⟩
  · have e : encG xs ys = (packL xs ++ packL ys, 0) := by unfold encG; rw [h]; rfl
    rw [e]
    have hl := sigOk_len h
    have HK := Lib.hid (fun W (hb : Below w.heap.size w W) => sig_yes W A B c d xs ys (Kd.C_below hC hb) (Kd.C_below hD hb) hx hy h)
    have HP := Lib.hid (fun W (hb : Below w.heap.size w W) => packed56_any W A c xs (Kd.C_below hC hb) (by omega) (sigOk_args h))
    have HQ := Lib.hid (fun W (hb : Below w.heap.size w W) => packed56_any W B d ys (Kd.C_below hD hb) (by omega) (fun x hx => by have := sigOk_res h x hx; omega))
    have HL1 := Lib.hid (packL_len (xs := xs))
    have HL2 := Lib.hid (packL_len (xs := ys))
    clear hC hD h e hl
    generalize packL xs = us at *
    generalize packL ys = vs at *
    go_enter Try.func30, Try.ntmps30
    go_wp2_with (go_at_call 27; refine (HK.out _ HB0.out).mono ?_; rintro e w1 ⟨rfl, hb⟩; have HB1 := Lib.hid (below_then HB0.out HB0.out.size hb); have E := (hb.block _ (blk_lt HE.out)).trans HE.out; have q0 := blk_cell E 0; have q1 := blk_cell E 1; simp only [List.getElem?_toArray, List.getElem?_cons_zero, List.getElem?_cons_succ] at q0 q1; clear hb E)
    have HX : Hid (∀ W, Below w1.heap.size w1 W → W.cell? ⟨w.heap.size, 0, none⟩ = some (.slice A xs.length c) ∧ W.cell? ⟨w.heap.size, 1, none⟩ = some (.slice B ys.length d)) := Lib.hid (fun W h => ⟨pw_cell_below h q0, pw_cell_below h q1⟩)
    have HW := Lib.hid (Below.refl w1.heap.size w1)
    have HS := Lib.hid HB1.out.size
    go_region_held3 (fun W' => W'.cell? ⟨w.heap.size, 0, none⟩ = some (.slice A xs.length c) ∧ W'.cell? ⟨w.heap.size, 1, none⟩ = some (.slice B ys.length d)) ((refine HX.out _ ?_; repeat (first | exact HW.out | apply below_drew | apply below_alloc))) ((first | (go_at_call 56; (with_reducible refine (HP.out _ (by repeat (first | exact HB1.out | apply below_drew | apply below_alloc))).mono ?_); rintro e w2 ⟨u, rfl, hu, hb⟩; have HU := Lib.hid (own_less hu (below_drew HW.out).size); have HW2 := Lib.hid (below_step (by repeat (first | exact HW.out | apply below_drew | apply below_alloc)) hb); clear HW; have HW := HW2; clear HW2 hb hu) | (go_at_call 56; (with_reducible refine (HQ.out _ (below_then HB1.out HS.out HW.out)).mono ?_); rintro e w3 ⟨v, rfl, hv, hb⟩; obtain ⟨A5, c5, rfl⟩ := own_slice hv; have HV := Lib.hid (row_C hv).2.2; have HU3 := Lib.hid (pw_own_below HU.out hb); have HW3 := Lib.hid (below_step HW.out hb); clear HW; have HW := HW3; clear HW3 hb hv) | (refine Kd.R_append_rows_step (Kd.int .u8) (w0 := w1) (Rr := fun x cs => cs = [Value.int .u8 x]) w1.heap.size rfl (.tmp 12) (.tmp 15) 23 5 (.int .u8 0) 1 rfl Try.underlying23 info5 rfl (by decide) (by omega) u us vs A5 vs.length c5 (fun _ => True) (fun _ => False) rfl rfl (Kd.R_of_own HU3.out (fun _ _ => trivial)) HV.out (fun _ _ h => h) (fun _ h => h.elim) (fun _ _ => trivial) HW.out HW.out.size (by have := HL1.out; have := HL2.out; omega) ?_; intro v5 w5 hR5 hB5 _ _; have HR5 := Lib.hid hR5; clear HW; have HW := Lib.hid hB5; clear hR5 hB5)))
    go_wp2
    go_ret2
    exact ⟨_, rfl, own_less (Kd.own_of_R HR5.out) HS.out, below_then HB1.out HS.out HW.out⟩

set_option maxRecDepth 100000 in
set_option maxHeartbeats 2000000 in
theorem ShowSig38_any (w : World) (A B : Option Addr) (c d : Nat) (xs ys : List Int) (hC : (Kd.int .i64).C w A xs.length xs) (hD : (Kd.int .i64).C w B ys.length ys) (hx : xs.length ≤ 1000) (hy : ys.length ≤ 1000) :
    Calls Try.prog 38 #[.agg #[.slice A xs.length c, .slice B ys.length d]] w fun e w' => e = .returned (.string ⟨(showG xs ys).toArray⟩) ∧ Below w.heap.size w w' := by
  have hB0 := below_alloc (Below.refl w.heap.size w) (.cells #[.slice A xs.length c, .slice B ys.length d] 26)
  have hE := World.alloc_heap_new w (.cells #[.slice A xs.length c, .slice B ys.length d] 26)
  have HB0 := Lib.hid hB0
  have HE := Lib.hid hE
  clear hB0 hE
  cases h : sigOk xs ys
  · have e : showG xs ys = [] := by unfold showG; rw [h]; rfl
    rw [e]
    have HK := Lib.hid (fun W (hb : Below w.heap.size w W) => sig_no W A B c d xs ys (Kd.C_below hC hb) (Kd.C_below hD hb) hx hy h)
    clear hC hD h e
    go_enter Try.func38, Try.ntmps38
    go_wp2_with (go_at_call 27; refine (HK.out _ HB0.out).mono ?_; rintro e w1 ⟨rfl, hb⟩; have HB1 := Lib.hid (below_then HB0.out HB0.out.size hb); clear hb)
    go_ret
    exact ⟨rfl, HB1.out⟩
  · have e : showG xs ys = textL xs ++ [62] ++ textL ys := by unfold showG; rw [h]; rfl
    rw [e]
    have hl := sigOk_len h
    have HK := Lib.hid (fun W (hb : Below w.heap.size w W) => sig_yes W A B c d xs ys (Kd.C_below hC hb) (Kd.C_below hD hb) hx hy h)
    have HP := Lib.hid (fun W (hb : Below w.heap.size w W) => Text52_any W A c xs (Kd.C_below hC hb))
    have HQ := Lib.hid (fun W (hb : Below w.heap.size w W) => Text52_any W B d ys (Kd.C_below hD hb))
    clear hC hD h e hl
    have hu := textL_len xs
    have hv := textL_len ys
    have he : (⟨(textL xs ++ [62] ++ textL ys).toArray⟩ : ByteArray) = (⟨(textL xs).toArray⟩ : ByteArray) ++ ⟨#[62]⟩ ++ ⟨(textL ys).toArray⟩ := by
      apply ByteArray.ext
      simp
    rw [he]
    clear he
    obtain ⟨us, hus⟩ : ∃ us : ByteArray, us = ⟨(textL xs).toArray⟩ := ⟨_, rfl⟩
    obtain ⟨vs, hvs⟩ : ∃ vs : ByteArray, vs = ⟨(textL ys).toArray⟩ := ⟨_, rfl⟩
    rw [← hus, ← hvs]
    rw [← hus] at HP
    rw [← hvs] at HQ
    have hus' : us.size ≤ 1024 := by rw [hus]; simpa [ByteArray.size] using hu
    have hvs' : vs.size ≤ 1024 := by rw [hvs]; simpa [ByteArray.size] using hv
    have d1 : us.size + 1 ≤ 9223372036854775807 := by omega
    have d2 : (us ++ (⟨#[62]⟩ : ByteArray)).size + vs.size ≤ 9223372036854775807 := by rw [ByteArray.size_append]; show us.size + 1 + vs.size ≤ _; omega
    have k1 := fun W => run_string_add_sum (P := Try.prog) (w := W) us ⟨#[62]⟩ d1
    have k2 := fun W => run_string_add_sum (P := Try.prog) (w := W) (us ++ ⟨#[62]⟩) vs d2
    clear hu hv hus hvs hus' hvs'
    go_enter Try.func38, Try.ntmps38
    go_wp2_with (go_at_call 27; refine (HK.out _ HB0.out).mono ?_; rintro e w1 ⟨rfl, hb⟩; have HB1 := Lib.hid (below_then HB0.out HB0.out.size hb); have E := (hb.block _ (blk_lt HE.out)).trans HE.out; have q0 := blk_cell E 0; have q1 := blk_cell E 1; simp only [List.getElem?_toArray, List.getElem?_cons_zero, List.getElem?_cons_succ] at q0 q1; clear hb E)
    go_region_held3 (fun W' => W'.cell? ⟨w.heap.size, 0, none⟩ = some (.slice A xs.length c) ∧ W'.cell? ⟨w.heap.size, 1, none⟩ = some (.slice B ys.length d)) (go_keep) ((first | (go_at_call 52; (with_reducible refine (HP.out _ (by repeat (first | exact HB1.out | apply below_drew | apply below_alloc))).mono ?_); rintro e w2 ⟨rfl, hb⟩; replace q0 := pw_cell_below hb q0; replace q1 := pw_cell_below hb q1; have HB2 := Lib.hid (below_step (by repeat (first | exact HB1.out | apply below_drew | apply below_alloc)) hb); clear hb) | (go_at_call 52; (with_reducible refine (HQ.out _ HB2.out).mono ?_); rintro e w3 ⟨rfl, hb⟩; replace q0 := pw_cell_below hb q0; replace q1 := pw_cell_below hb q1; have HB3 := Lib.hid (below_step HB2.out hb); clear hb)))
    all_goals
      go_wp2
      go_ret
      exact ⟨rfl, HB3.out⟩

end Go.Proofs.Ytacmajlbaenjfaa
