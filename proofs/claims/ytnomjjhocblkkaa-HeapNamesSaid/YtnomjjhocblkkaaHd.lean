/- Contracts of the heap: of, object, Shape. -/
import Derived.Test.YtnomjjhocblkkaaHc
namespace Go.Proofs.Ytnomjjhocblkkaa
open Go.RowKit Go.Proofs.YtnomjjhocblkkaaW.PrintWords Go.Proofs.YtnomjjhocblkkaaW.PrintLast Go.Proofs.YtnomjjhocblkkaaW.PrintMore
open Go.Proofs.Ytnomjjhocblkkaa.PHeapSound
attribute [local go_sem] eqMap67

/-- An object's shape. -/
def rowOf (H : HM) (n : Int) : List Int := rd_L1 H.sh (rd H.objs (n - 1))

/-- Each object has a shape; there are few. -/
structure HFit (H : HM) : Prop where
  objs : ∀ o ∈ H.objs, 0 ≤ o ∧ o < H.sh.length
  few : H.objs.length ≤ 1000000
  small : H.sh.length ≤ 64
  row : ∀ s ∈ H.sh, s.length ≤ 16
  quota : 0 ≤ H.quota ∧ H.quota ≤ 1048576
  used : 0 ≤ H.used ∧ H.used ≤ H.quota

theorem HFit.obj {H : HM} (h : HFit H) {n : Int} (h1 : 1 ≤ n) (h2 : n ≤ H.objs.length) : 0 ≤ rd H.objs (n - 1) ∧ rd H.objs (n - 1) < H.sh.length := by
  refine h.objs _ ?_
  unfold rd
  rw [List.getD_eq_getElem?_getD, List.getElem?_eq_getElem (by omega)]
  exact List.getElem_mem _

set_option maxRecDepth 100000 in
set_option maxHeartbeats 1000000 in
theorem of_at {base : Nat} {w : World} {g m : Nat} {H : HM} {R : Nat → Prop} (h : HOwn base w g m H R) (hf : HFit H) (t n : Int) (h1 : 1 ≤ n) (h2 : n ≤ H.objs.length) :
    ∃ A c, (rowOf H n).length ≤ c ∧ (Kd.int .i64).C w A (rowOf H n).length (rowOf H n) ∧
      Calls Try.prog 41 #[.pointer (some ⟨g, 0, none⟩), .agg #[.int .i64 t, .int .i64 n]] w fun e w' => e = .returned (.slice A (rowOf H n).length c) ∧ Below w.heap.size w w' := by
  obtain ⟨k, rfl⟩ : ∃ k : Nat, n = (k : Int) + 1 := ⟨(n - 1).toNat, by omega⟩
  have hB0 : Below w.heap.size w (w.alloc (.cells #[.int .i64 t, .int .i64 ((k : Int) + 1)] 32)) := below_alloc (Below.refl _ _) _
  have HB0 := Lib.hid hB0
  have q1 := blk_cell (World.alloc_heap_new w (.cells #[.int .i64 t, .int .i64 ((k : Int) + 1)] 32)) 1
  simp only [List.getElem?_toArray, List.getElem?_cons_zero, List.getElem?_cons_succ] at q1
  obtain ⟨S, sc, O, oc, es, clock, hl1, hl2, hC, hD, _, _, _, c0, _, _, c3, _⟩ := h.now
  obtain ⟨o0, o1⟩ := hf.obj h1 h2
  have hrow : rd_L1 H.sh (rd H.objs ((k : Int) + 1 - 1)) = rowOf H ((k : Int) + 1) := rfl
  rw [show (k : Int) + 1 - 1 = (k : Int) by omega] at o0 o1 hrow
  obtain ⟨ad, rfl, e1⟩ := Kd.at_int hD (k : Int) (by omega) (by omega)
  obtain ⟨ae, A, c, rfl, e2, hAc, hA⟩ := at_L1 hC (rd H.objs (k : Int)) o0 o1
  rw [hrow] at e2 hAc hA
  have hn1 : (k : Int) < (H.objs.length : Int) := by omega
  have hfew := hf.few
  rw [Int.toNat_natCast] at e1
  refine ⟨A, c, hAc, hA, ?_⟩
  generalize rowOf H ((k : Int) + 1) = row at *
  obtain ⟨o, ho⟩ : ∃ o : Nat, rd H.objs (k : Int) = o := ⟨(rd H.objs (k : Int)).toNat, by omega⟩
  rw [ho] at e1 e2 o0 o1
  rw [Int.toNat_natCast] at e2
  have x0 := pw_cell_below hB0 c0
  have x1 := pw_cell_below hB0 c3
  have x2 := pw_cell_below hB0 e1
  have x3 := pw_cell_below hB0 e2
  clear h hB0 hC hD hA hrow hAc hl1 hl2 hf ho h1 h2 c0 c3 e1 e2
  go_enter Try.func41, Try.ntmps41
  go_wp2
  go_quiet (fail)
  go_wp2
  go_ret
  exact ⟨rfl, pw_below_drewN HB0.out _⟩

theorem of_any {base : Nat} {w : World} {g m : Nat} {H : HM} {R : Nat → Prop} (h : HOwn base w g m H R) (hf : HFit H) (t n : Int) (h1 : 1 ≤ n) (h2 : n ≤ H.objs.length) :
    Calls Try.prog 41 #[.pointer (some ⟨g, 0, none⟩), .agg #[.int .i64 t, .int .i64 n]] w fun e w' => ∃ A c, e = .returned (.slice A (rowOf H n).length c) ∧ (rowOf H n).length ≤ c ∧ (Kd.int .i64).C w' A (rowOf H n).length (rowOf H n) ∧ Below w.heap.size w w' := by
  obtain ⟨A, c, h3, h4, h5⟩ := of_at h hf t n h1 h2
  exact h5.mono fun e w' ⟨he, hb⟩ => ⟨A, c, he, h3, Kd.C_below h4 hb, hb⟩

theorem nil_val (n : Int) : value_Nil.f 2 n = some (n == 0) := by
  unfold value_Nil.f value_Known.f value_Int.f
  simp
theorem nil_any (n : Int) (w : World) : Calls Try.prog 56 #[.agg #[.int .i64 2, .int .i64 n]] w fun e w' => e = .returned (.bool (n == 0)) ∧ Below w.heap.size w w' :=
  value_Nil.calls 2 n _ w (nil_val n)

theorem readyC_cases (H : HM) (t n : Int) : readyC H t n = 150 ∨ (readyC H t n = 0 ∧ t = 2 ∧ 0 ≤ n ∧ n ≤ H.objs.length) := by
  unfold readyC
  by_cases h : t = 2 ∧ heldB H t n = true
  · rw [if_pos h]
    obtain ⟨rfl, h⟩ := h
    unfold heldB okV at h
    simp at h
    exact .inr ⟨rfl, rfl, h.1, h.2⟩
  · rw [if_neg h]; exact .inl rfl

/-- object: an error, or none: there is one. -/
def objC (H : HM) (t n : Int) : Int := if readyC H t n = 0 then (if n = 0 then 150 else 0) else 150
theorem objC_cases (H : HM) (t n : Int) : objC H t n = 150 ∨ (objC H t n = 0 ∧ t = 2 ∧ 1 ≤ n ∧ n ≤ H.objs.length) := by
  unfold objC
  rcases readyC_cases H t n with h | ⟨h, h1, h2, h3⟩
  · rw [h]; exact .inl rfl
  · rw [h, if_pos rfl]
    by_cases h0 : n = 0
    · rw [if_pos h0]; exact .inl rfl
    · rw [if_neg h0]; exact .inr ⟨rfl, h1, by omega, h3⟩

set_option maxRecDepth 100000 in
set_option maxHeartbeats 1000000 in
theorem object_any {base : Nat} {w : World} {g m : Nat} {H : HM} {R : Nat → Prop} (h : HOwn base w g m H R) (t n : Int) :
    Calls Try.prog 40 #[.pointer (some ⟨g, 0, none⟩), .agg #[.int .i64 t, .int .i64 n]] w fun e w' => e = .returned (.int .i64 (objC H t n)) ∧ Below w.heap.size w w' := by
  have hB0 : Below w.heap.size w (w.alloc (.cells #[.int .i64 t, .int .i64 n] 32)) := below_alloc (Below.refl _ _) _
  have HB0 := Lib.hid hB0
  have HO := Lib.hid (h.below hB0)
  have q0 := blk_cell (World.alloc_heap_new w (.cells #[.int .i64 t, .int .i64 n] 32)) 0
  have q1 := blk_cell (World.alloc_heap_new w (.cells #[.int .i64 t, .int .i64 n] 32)) 1
  simp only [List.getElem?_toArray, List.getElem?_cons_zero, List.getElem?_cons_succ] at q0 q1
  have Q0 := Lib.hid q0
  have Q1 := Lib.hid q1
  have hr := ready_any (h.below hB0) t n
  clear h hB0 q0 q1
  rcases readyC_cases H t n with he | ⟨he, rfl, h1, h2⟩
  · have e : objC H t n = 150 := by unfold objC; rw [he]; rfl
    rw [e]
    rw [he] at hr
    have HR := Lib.hid hr
    clear hr he e
    go_enter Try.func40, Try.ntmps40
    go_wp2_with (go_at_call 37; refine HR.out.mono ?_; rintro e w1 ⟨rfl, hb⟩; have HB1 := Lib.hid (below_then HB0.out HB0.out.size hb); clear hb)
    go_ret
    exact ⟨rfl, HB1.out⟩
  · rw [he] at hr
    have HR := Lib.hid hr
    by_cases hn : n = 0
    · have e : objC H 2 n = 150 := by unfold objC; rw [he, if_pos rfl, if_pos hn]
      rw [e]
      have hz : (n == 0) = true := by simpa using hn
      have HN := Lib.hid (fun w => nil_any n w)
      rw [hz] at HN
      clear hr he e hz hn
      go_enter Try.func40, Try.ntmps40
      go_wp2_with (first | (go_at_call 37; refine HR.out.mono ?_; rintro e w1 ⟨rfl, hb⟩; have HB1 := Lib.hid (below_then HB0.out HB0.out.size hb); have z0 := pw_cell_below hb Q0.out; have z1 := pw_cell_below hb Q1.out; clear hb) | (go_at_call 56; refine (HN.out _).mono ?_; rintro e w2 ⟨rfl, hb⟩; have HB2 := Lib.hid (below_then HB1.out HB1.out.size hb); clear hb))
      go_ret
      exact ⟨rfl, HB2.out⟩
    · have e : objC H 2 n = 0 := by unfold objC; rw [he, if_pos rfl, if_neg hn]
      rw [e]
      have hz : (n == 0) = false := by simpa using hn
      have HN := Lib.hid (fun w => nil_any n w)
      rw [hz] at HN
      clear hr he e hz hn
      go_enter Try.func40, Try.ntmps40
      go_wp2_with (first | (go_at_call 37; refine HR.out.mono ?_; rintro e w1 ⟨rfl, hb⟩; have HB1 := Lib.hid (below_then HB0.out HB0.out.size hb); have z0 := pw_cell_below hb Q0.out; have z1 := pw_cell_below hb Q1.out; clear hb) | (go_at_call 56; refine (HN.out _).mono ?_; rintro e w2 ⟨rfl, hb⟩; have HB2 := Lib.hid (below_then HB1.out HB1.out.size hb); clear hb))
      go_ret
      exact ⟨rfl, HB2.out⟩

/-- Shape: an object's shape's number. -/
def shapeC (H : HM) (t n : Int) : Int := if objC H t n = 0 then rd H.objs (n - 1) else 0

set_option maxRecDepth 100000 in
set_option maxHeartbeats 1000000 in
theorem Shape_any {base : Nat} {w : World} {g m : Nat} {H : HM} {R : Nat → Prop} (h : HOwn base w g m H R) (hfew : H.objs.length ≤ 1000000) (t n : Int) :
    Calls Try.prog 18 #[.pointer (some ⟨g, 0, none⟩), .agg #[.int .i64 t, .int .i64 n]] w fun e w' => e = .returned (.tuple #[.int .i64 (shapeC H t n), .int .i64 (objC H t n)]) ∧ Below w.heap.size w w' := by
  have hB0 : Below w.heap.size w (w.alloc (.cells #[.int .i64 t, .int .i64 n] 32)) := below_alloc (Below.refl _ _) _
  have HB0 := Lib.hid hB0
  have HO := Lib.hid (h.below hB0)
  have hr := object_any (h.below hB0) t n
  rcases objC_cases H t n with he | ⟨he, rfl, h1, h2⟩
  · have e : shapeC H t n = 0 := by unfold shapeC; rw [he]; rfl
    rw [e, he]
    rw [he] at hr
    have HR := Lib.hid hr
    clear hr he e h hB0
    go_enter Try.func18, Try.ntmps18
    go_wp2_with (go_at_call 40; refine HR.out.mono ?_; rintro e w1 ⟨rfl, hb⟩; have HB1 := Lib.hid (below_then HB0.out HB0.out.size hb); clear hb)
    go_ret2
    exact ⟨rfl, HB1.out⟩
  · have e : shapeC H 2 n = rd H.objs (n - 1) := by unfold shapeC; rw [he, if_pos rfl]
    rw [e, he]
    rw [he] at hr
    obtain ⟨k, rfl⟩ : ∃ k : Nat, n = (k : Int) + 1 := ⟨(n - 1).toNat, by omega⟩
    rw [show (k : Int) + 1 - 1 = (k : Int) by omega]
    have q1 := blk_cell (World.alloc_heap_new w (.cells #[.int .i64 2, .int .i64 ((k : Int) + 1)] 32)) 1
    simp only [List.getElem?_toArray, List.getElem?_cons_zero, List.getElem?_cons_succ] at q1
    have Q1 := Lib.hid q1
    have HR := Lib.hid hr
    have hn1 : (k : Int) < (H.objs.length : Int) := by omega
    clear hr he e h hB0 q1 h1 h2
    go_enter Try.func18, Try.ntmps18
    go_wp2_with (go_at_call 40; refine HR.out.mono ?_; rintro e w1 ⟨rfl, hb⟩; have HB1 := Lib.hid (below_then HB0.out HB0.out.size hb); have HO1 := Lib.hid (HO.out.below hb); have z1 := pw_cell_below hb Q1.out; clear hb)
    obtain ⟨S, sc, O, oc, es, clock, hl1, hl2, hC, hD, _, _, _, c0, _, _, c3, _⟩ := HO1.out.now
    obtain ⟨ad, rfl, e1⟩ := Kd.at_int hD (k : Int) (by omega) (by omega)
    rw [Int.toNat_natCast] at e1
    clear hC hD hl1 hl2 c0
    go_quiet (fail)
    go_wp2
    go_ret2
    exact ⟨rfl, pw_below_drewN HB1.out _⟩
end Go.Proofs.Ytnomjjhocblkkaa
