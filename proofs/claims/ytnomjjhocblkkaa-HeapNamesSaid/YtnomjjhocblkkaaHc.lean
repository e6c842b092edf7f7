/- Contracts of the heap's small functions: Held, ready, Len, Used, Left, of, object, Shape. -/
import Derived.Test.YtnomjjhocblkkaaHb
import Derived.Deep.QuietTactic
import Derived.BigQuiet
namespace Go.Proofs.Ytnomjjhocblkkaa
open Go.RowKit Go.Proofs.YtnomjjhocblkkaaW.PrintWords Go.Proofs.YtnomjjhocblkkaaW.PrintLast Go.Proofs.YtnomjjhocblkkaaW.PrintMore
open Go.Proofs.Ytnomjjhocblkkaa.PHeapSound
attribute [local go_sem] eqMap67

/-- A value that may be. -/
def okV (t n : Int) : Bool := decide (1 ≤ t) && decide (t < 5) && (decide (t = 1) || decide (0 ≤ n))
theorem check_val (t n : Int) : value_Check.f t n = some (if okV t n then 0 else 21) := by
  unfold value_Check.f value_Known.f okV
  by_cases h1 : 1 ≤ t
  · by_cases h2 : t < 5
    · by_cases h3 : t = 1
      · simp [h3]
      · by_cases h4 : n < 0
        · have : ¬ 0 ≤ n := by omega
          simp [h1, h2, h3, h4, this]
        · have : 0 ≤ n := by omega
          simp [h1, h2, h3, h4, this]
    · simp [h1, h2]
  · have : ¬ t ≥ 1 := h1
    simp [h1]
theorem check_any (t n : Int) (w : World) : Calls Try.prog 42 #[.agg #[.int .i64 t, .int .i64 n]] w fun e w' => e = .returned (.int .i64 (if okV t n then 0 else 21)) ∧ Below w.heap.size w w' :=
  value_Check.calls t n _ w (check_val t n)

/-- A value that may be in a cell. -/
def heldB (H : HM) (t n : Int) : Bool := okV t n && (decide (t = 1) || (decide (t = 2) && decide (n ≤ H.objs.length)) || (decide (t = 3) && decide (n ≤ 64)))

set_option maxRecDepth 100000 in
set_option maxHeartbeats 1000000 in
theorem Held_any {base : Nat} {w : World} {g m : Nat} {H : HM} {R : Nat → Prop} (h : HOwn base w g m H R) (t n : Int) :
    Calls Try.prog 21 #[.pointer (some ⟨g, 0, none⟩), .agg #[.int .i64 t, .int .i64 n]] w fun e w' => e = .returned (.bool (heldB H t n)) ∧ Below w.heap.size w w' := by
  have hB0 : Below w.heap.size w (w.alloc (.cells #[.int .i64 t, .int .i64 n] 32)) := below_alloc (Below.refl _ _) _
  have HB0 := Lib.hid hB0
  have HO := Lib.hid (h.below hB0)
  clear h hB0
  have hcall := fun w => check_any t n w
  by_cases hk : okV t n = true
  · have hk' := hk
    unfold okV at hk'
    simp only [Bool.and_eq_true, decide_eq_true_eq, Bool.or_eq_true] at hk'
    obtain ⟨⟨h1, h2⟩, h3⟩ := hk'
    simp only [hk, if_true] at hcall
    have HC := Lib.hid hcall
    have ht : t = 1 ∨ t = 2 ∨ t = 3 ∨ t = 4 := by omega
    have e : heldB H t n = (decide (t = 1) || (decide (t = 2) && decide (n ≤ H.objs.length)) || (decide (t = 3) && decide (n ≤ 64))) := by unfold heldB; rw [hk, Bool.true_and]
    rw [e]
    clear hcall hk h1 h2 e
    have q0 := blk_cell (World.alloc_heap_new w (.cells #[.int .i64 t, .int .i64 n] 32)) 0
    have q1 := blk_cell (World.alloc_heap_new w (.cells #[.int .i64 t, .int .i64 n] 32)) 1
    simp only [List.getElem?_toArray, List.getElem?_cons_zero, List.getElem?_cons_succ] at q0 q1
    have Q0 := Lib.hid q0
    have Q1 := Lib.hid q1
    clear q0 q1
    rcases ht with rfl | rfl | rfl | rfl
    · go_enter Try.func21, Try.ntmps21
      go_wp2_with (first | (go_at_call 35; refine (none_any HO.out).mono ?_; rintro e w' ⟨rfl, rfl⟩) | (go_at_call 42; refine (HC.out _).mono ?_; rintro e w1 ⟨rfl, hb⟩; have HB1 := Lib.hid (below_then HB0.out HB0.out.size hb); have HO1 := Lib.hid (HO.out.below hb); have z0 := pw_cell_below hb Q0.out; have z1 := pw_cell_below hb Q1.out; clear hb))
      go_ret
      exact ⟨by simp, HB1.out⟩
    · go_enter Try.func21, Try.ntmps21
      go_wp2_with (first | (go_at_call 35; refine (none_any HO.out).mono ?_; rintro e w' ⟨rfl, rfl⟩) | (go_at_call 42; refine (HC.out _).mono ?_; rintro e w1 ⟨rfl, hb⟩; have HB1 := Lib.hid (below_then HB0.out HB0.out.size hb); have HO1 := Lib.hid (HO.out.below hb); have z0 := pw_cell_below hb Q0.out; have z1 := pw_cell_below hb Q1.out; clear hb))
      obtain ⟨S, sc, O, oc, es, clock, _, _, _, _, _, _, _, _, _, _, c3, _⟩ := HO1.out.now
      go_quiet (fail)
      go_wp2
      go_ret
      exact ⟨by simp, pw_below_drewN HB1.out _⟩
    · go_enter Try.func21, Try.ntmps21
      go_wp2_with (first | (go_at_call 35; refine (none_any HO.out).mono ?_; rintro e w' ⟨rfl, rfl⟩) | (go_at_call 42; refine (HC.out _).mono ?_; rintro e w1 ⟨rfl, hb⟩; have HB1 := Lib.hid (below_then HB0.out HB0.out.size hb); have HO1 := Lib.hid (HO.out.below hb); have z0 := pw_cell_below hb Q0.out; have z1 := pw_cell_below hb Q1.out; clear hb))
      go_ret
      exact ⟨by simp, HB1.out⟩
    · go_enter Try.func21, Try.ntmps21
      go_wp2_with (first | (go_at_call 35; refine (none_any HO.out).mono ?_; rintro e w' ⟨rfl, rfl⟩) | (go_at_call 42; refine (HC.out _).mono ?_; rintro e w1 ⟨rfl, hb⟩; have HB1 := Lib.hid (below_then HB0.out HB0.out.size hb); have HO1 := Lib.hid (HO.out.below hb); have z0 := pw_cell_below hb Q0.out; have z1 := pw_cell_below hb Q1.out; clear hb))
      go_ret
      exact ⟨by simp, HB1.out⟩
  · have hk : okV t n = false := by simpa using hk
    have e : heldB H t n = false := by unfold heldB; rw [hk, Bool.false_and]
    rw [e]
    simp only [hk, Bool.false_eq_true, if_false] at hcall
    have HC := Lib.hid hcall
    clear hcall hk e
    have q0 := blk_cell (World.alloc_heap_new w (.cells #[.int .i64 t, .int .i64 n] 32)) 0
    have q1 := blk_cell (World.alloc_heap_new w (.cells #[.int .i64 t, .int .i64 n] 32)) 1
    simp only [List.getElem?_toArray, List.getElem?_cons_zero, List.getElem?_cons_succ] at q0 q1
    have Q0 := Lib.hid q0
    have Q1 := Lib.hid q1
    clear q0 q1
    go_enter Try.func21, Try.ntmps21
    go_wp2_with (first | (go_at_call 35; refine (none_any HO.out).mono ?_; rintro e w' ⟨rfl, rfl⟩) | (go_at_call 42; refine (HC.out _).mono ?_; rintro e w1 ⟨rfl, hb⟩; have HB1 := Lib.hid (below_then HB0.out HB0.out.size hb); have HO1 := Lib.hid (HO.out.below hb); have z0 := pw_cell_below hb Q0.out; have z1 := pw_cell_below hb Q1.out; clear hb))
    go_ret
    exact ⟨rfl, HB1.out⟩

/-- ready: nil, no object, or one that there is. -/
def readyC (H : HM) (t n : Int) : Int := if t = 2 ∧ heldB H t n = true then 0 else 150

set_option maxRecDepth 100000 in
set_option maxHeartbeats 1000000 in
theorem ready_any {base : Nat} {w : World} {g m : Nat} {H : HM} {R : Nat → Prop} (h : HOwn base w g m H R) (t n : Int) :
    Calls Try.prog 37 #[.pointer (some ⟨g, 0, none⟩), .agg #[.int .i64 t, .int .i64 n]] w fun e w' => e = .returned (.int .i64 (readyC H t n)) ∧ Below w.heap.size w w' := by
  have hB0 : Below w.heap.size w (w.alloc (.cells #[.int .i64 t, .int .i64 n] 32)) := below_alloc (Below.refl _ _) _
  have HB0 := Lib.hid hB0
  have HO := Lib.hid (h.below hB0)
  clear h hB0
  by_cases ht : t = 2
  · subst ht
    by_cases hb : heldB H 2 n = true
    · have e : readyC H 2 n = 0 := by unfold readyC; rw [if_pos ⟨rfl, hb⟩]
      rw [e]
      have HV := Lib.hid hb
      clear hb e
      go_enter Try.func37, Try.ntmps37
      go_wp2_with (first | (go_at_call 35; refine (none_any HO.out).mono ?_; rintro e w' ⟨rfl, rfl⟩) | (go_at_call 21; refine (Held_any HO.out 2 n).mono ?_; rw [HV.out]; rintro e w1 ⟨rfl, hb⟩; have HB1 := Lib.hid (below_then HB0.out HB0.out.size hb); clear hb))
      go_ret
      exact ⟨rfl, HB1.out⟩
    · have hb : heldB H 2 n = false := by simpa using hb
      have e : readyC H 2 n = 150 := by unfold readyC; rw [if_neg (by simp [hb])]
      rw [e]
      have HV := Lib.hid hb
      clear hb e
      go_enter Try.func37, Try.ntmps37
      go_wp2_with (first | (go_at_call 35; refine (none_any HO.out).mono ?_; rintro e w' ⟨rfl, rfl⟩) | (go_at_call 21; refine (Held_any HO.out 2 n).mono ?_; rw [HV.out]; rintro e w1 ⟨rfl, hb⟩; have HB1 := Lib.hid (below_then HB0.out HB0.out.size hb); clear hb))
      go_ret
      exact ⟨rfl, HB1.out⟩
  · have e : readyC H t n = 150 := by unfold readyC; rw [if_neg (fun h => ht h.1)]
    rw [e]
    have ht' : (t != 2) = true := by simpa using ht
    clear e ht
    go_enter Try.func37, Try.ntmps37
    go_wp2_with (go_at_call 35; refine (none_any HO.out).mono ?_; rintro e w' ⟨rfl, rfl⟩)
    go_ret
    exact ⟨rfl, HB0.out⟩

theorem Len_any {base : Nat} {w : World} {g m : Nat} {H : HM} {R : Nat → Prop} (h : HOwn base w g m H R) :
    Calls Try.prog 12 #[.pointer (some ⟨g, 0, none⟩)] w fun e w' => e = .returned (.int .i64 H.objs.length) ∧ w = w' := by
  obtain ⟨S, sc, O, oc, es, clock, _, _, _, _, _, _, _, _, _, _, c3, _⟩ := h.now
  have HO := Lib.hid h
  clear h
  go_enter Try.func12, Try.ntmps12
  go_wp2_with (go_at_call 35; refine (none_any HO.out).mono ?_; rintro e w' ⟨rfl, rfl⟩)
  go_ret
  exact ⟨rfl, rfl⟩

theorem Used_any {base : Nat} {w : World} {g m : Nat} {H : HM} {R : Nat → Prop} (h : HOwn base w g m H R) :
    Calls Try.prog 14 #[.pointer (some ⟨g, 0, none⟩)] w fun e w' => e = .returned (.int .i64 H.used) ∧ w = w' := by
  obtain ⟨S, sc, O, oc, es, clock, _, _, _, _, _, _, _, _, _, c2, _, _⟩ := h.now
  have HO := Lib.hid h
  clear h
  go_enter Try.func14, Try.ntmps14
  go_wp2_with (go_at_call 35; refine (none_any HO.out).mono ?_; rintro e w' ⟨rfl, rfl⟩)
  go_ret
  exact ⟨rfl, rfl⟩

theorem Left_any {base : Nat} {w : World} {g m : Nat} {H : HM} {R : Nat → Prop} (h : HOwn base w g m H R) (h1 : 0 ≤ H.quota ∧ H.quota ≤ 1048576) (h2 : 0 ≤ H.used ∧ H.used ≤ 1048576) :
    Calls Try.prog 22 #[.pointer (some ⟨g, 0, none⟩)] w fun e w' => e = .returned (.int .i64 (H.quota - H.used)) ∧ ∃ n, w' = w.drewN n := by
  obtain ⟨S, sc, O, oc, es, clock, _, _, _, _, _, _, _, _, c1, c2, _, _⟩ := h.now
  obtain ⟨h1, h1'⟩ := h1
  obtain ⟨h2, h2'⟩ := h2
  have HO := Lib.hid h
  clear h
  have e : IntKind.i64.wrap (H.quota - H.used) = H.quota - H.used := by rw [IntKind.wrap_i64]; omega
  go_enter Try.func22, Try.ntmps22
  go_wp2_with (go_at_call 35; refine (none_any HO.out).mono ?_; rintro e w' ⟨rfl, rfl⟩)
  go_quiet (fail)
  go_wp2
  go_ret
  exact ⟨rfl, _, rfl⟩
end Go.Proofs.Ytnomjjhocblkkaa
