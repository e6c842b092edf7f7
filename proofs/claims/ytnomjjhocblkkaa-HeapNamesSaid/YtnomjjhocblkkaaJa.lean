/- shape.Check: a shape has 1 to 16 types that a cell may have. -/
import Derived.Test.YtnomjjhocblkkaaHl
import Derived.LoopTactic
namespace Go.Proofs.Ytnomjjhocblkkaa
open Go.RowKit Go.Shelf Go.Proofs.YtnomjjhocblkkaaW.PrintWords Go.Proofs.YtnomjjhocblkkaaW.PrintLast Go.Proofs.YtnomjjhocblkkaaW.PrintMore
open Go.Proofs.Ytnomjjhocblkkaa.PHeapSound

theorem c61_any (w : World) (b : Nat) (hb : w.cell? ⟨b, 0, none⟩ = some (.bool true)) (t : Int) :
    Calls Try.prog 61 #[.int .i64 t, .pointer (some ⟨b, 0, none⟩)] w fun e w' => e = .returned (.bool (!cellT t)) ∧ Below w.heap.size w w' := by
  obtain ⟨kn, hkn⟩ : ∃ kn : Bool, kn = (decide (1 ≤ t) && decide (t < 5)) := ⟨_, rfl⟩
  have HKn := Lib.hid (fun w => known_any t kn hkn w)
  have HB := Lib.hid hb
  cases kn with
  | false =>
    have hv : cellT t = false := by unfold cellT; simp at hkn ⊢; omega
    rw [hv]
    clear hkn hv hb
    go_enter Try.func61, Try.ntmps61
    go_wp2_with (go_at_call 17; refine (HKn.out _).mono ?_; rintro e w3 ⟨rfl, mk, hmk⟩; have HB3 : Hid (Below w.heap.size w w3) := Lib.hid (hmk ▸ pw_below_drewN (Below.refl w.heap.size w) mk); clear hmk)
    go_ret
    exact ⟨rfl, HB3.out⟩
  | true =>
    by_cases h4 : t = 4
    · subst h4
      clear hkn hb
      go_enter Try.func61, Try.ntmps61
      go_wp2_with (go_at_call 17; refine (HKn.out _).mono ?_; rintro e w3 ⟨rfl, mk, hmk⟩; have HB3 : Hid (Below w.heap.size w w3) := Lib.hid (hmk ▸ pw_below_drewN (Below.refl w.heap.size w) mk); have z := pw_cell_below HB3.out HB.out; clear hmk)
      go_ret
      exact ⟨rfl, HB3.out⟩
    · have hv : cellT t = true := by unfold cellT; simp at hkn ⊢; omega
      rw [hv]
      have h4' : (t == 4) = false := by simpa using h4
      clear hkn hv hb h4
      go_enter Try.func61, Try.ntmps61
      go_wp2_with (go_at_call 17; refine (HKn.out _).mono ?_; rintro e w3 ⟨rfl, mk, hmk⟩; have HB3 : Hid (Below w.heap.size w w3) := Lib.hid (hmk ▸ pw_below_drewN (Below.refl w.heap.size w) mk); have z := pw_cell_below HB3.out HB.out; clear hmk)
      go_ret
      exact ⟨rfl, HB3.out⟩

theorem rd_mem {xs : List Int} {k : Nat} (h : k < xs.length) : xs[k]? = some (rd xs k) := by
  unfold rd
  rw [List.getD_eq_getElem?_getD, Int.toNat_natCast, List.getElem?_eq_getElem h]; rfl

set_option maxRecDepth 100000 in
set_option maxHeartbeats 1000000 in
theorem idx68_any (w : World) (b : Nat) (hb : w.cell? ⟨b, 0, none⟩ = some (.bool true)) (A : Option Addr) (c : Nat) (xs : List Int) (hC : (Kd.int .i64).C w A xs.length xs) (hn : xs.length ≤ 16) :
    Calls Try.prog 68 #[.slice A xs.length c, .func (.func 61) #[] #[.pointer (some ⟨b, 0, none⟩)]] w fun e w' => (∃ i : Int, e = .returned (.int .i64 i) ∧ (decide (0 ≤ i) = !xs.all cellT)) ∧ Below w.heap.size w w' := by
  have HC := Lib.hid hC
  have HBb := Lib.hid hb
  clear hC hb
  go_enter Try.func68, Try.ntmps68
  go_wp2
  go_loopw [8] (fun i W => ∃ k : Nat, i = .int .i64 k ∧ k ≤ xs.length ∧ Aside0 (∀ x ∈ xs.take k, cellT x = true) ∧ Aside0 (Below w.heap.size w W)) (fun i _ => xs.length - (intOf i).toNat)
  case atStart => exact ⟨0, rfl, by omega, Aside0.mk (by simp), Aside0.mk (Below.refl _ _)⟩
  case round =>
    obtain ⟨k, rfl, hk, HA, HB⟩ := hrel
    by_cases hlt : k < xs.length
    · have hlt2 : (k : Int) < (xs.length : Int) := by omega
      obtain ⟨ad, rfl, e1⟩ := Kd.at_int (Kd.C_below HC.out HB.out) (k : Int) (by omega) (by omega)
      rw [Int.toNat_natCast] at e1
      have HR := Lib.hid (rd_mem hlt)
      have HH := Lib.hid (fun W (h : Below w.heap.size w W) => c61_any W b (pw_cell_below h HBb.out) (rd xs k))
      generalize rd xs k = x at *
      cases hx : cellT x with
      | true =>
        rw [hx] at HH
        have HX := Lib.hid hx
        clear hx hk hlt
        go_wp2_with (go_at_call 61; refine (HH.out _ HB.out).mono ?_; rintro e w3 ⟨rfl, hb3⟩; have HB3 := Lib.hid (below_step HB.out hb3); clear hb3)
        refine ⟨⟨k + 1, rfl, by omega, Aside0.mk (fun y hy => ?_), Aside0.mk HB3.out⟩, ?_⟩
        · rw [List.take_add_one, HR.out] at hy
          rcases List.mem_append.1 hy with h1 | h1
          · exact HA.out y h1
          · have h2 : y = x := by simpa using h1
            rw [h2]; exact HX.out
        · show xs.length - ((k : Int) + 1).toNat < xs.length - (k : Int).toNat
          omega
      | false =>
        rw [hx] at HH
        have HX := Lib.hid hx
        clear hx hk hlt
        go_wp2_with (go_at_call 61; refine (HH.out _ HB.out).mono ?_; rintro e w3 ⟨rfl, hb3⟩; have HB3 := Lib.hid (below_step HB.out hb3); clear hb3)
        go_ret
        refine ⟨⟨_, rfl, ?_⟩, HB3.out⟩
        have : xs.all cellT = false := by
          rw [Bool.eq_false_iff]; intro h
          have := List.all_eq_true.1 h x (List.mem_of_getElem? HR.out)
          rw [HX.out] at this; cases this
        rw [this]; simp
    · obtain rfl : k = xs.length := by omega
      go_wp2
      go_ret
      refine ⟨⟨_, rfl, ?_⟩, HB.out⟩
      have h := HA.out
      rw [List.take_length] at h
      rw [List.all_eq_true.2 h]; rfl

theorem has62_any (w : World) (b : Nat) (hb : w.cell? ⟨b, 0, none⟩ = some (.bool true)) (A : Option Addr) (c : Nat) (xs : List Int) (hC : (Kd.int .i64).C w A xs.length xs) (hn : xs.length ≤ 16) :
    Calls Try.prog 62 #[.slice A xs.length c, .func (.func 61) #[] #[.pointer (some ⟨b, 0, none⟩)]] w fun e w' => e = .returned (.bool (!xs.all cellT)) ∧ Below w.heap.size w w' := by
  have HI := Lib.hid (idx68_any w b hb A c xs hC hn)
  clear hC hb hn
  generalize xs.all cellT = r at *
  go_enter Try.func62, Try.ntmps62
  go_wp2_with (go_at_call 68; refine HI.out.mono ?_; rintro e w3 ⟨⟨i, rfl, hi⟩, hb3⟩; have HI3 := Lib.hid hi; have HB3 := Lib.hid hb3; clear hi hb3)
  go_ret
  exact ⟨by rw [← HI3.out]; rfl, HB3.out⟩

theorem all53_any (w : World) (A : Option Addr) (c : Nat) (xs : List Int) (hC : (Kd.int .i64).C w A xs.length xs) (hn : xs.length ≤ 16) :
    Calls Try.prog 53 #[.slice A xs.length c, .bool true] w fun e w' => e = .returned (.bool (xs.all cellT)) ∧ Below w.heap.size w w' := by
  have hB1 : Below w.heap.size w (w.alloc (.cells #[.bool true] 4)) := below_alloc (Below.refl _ _) _
  have q0 := blk_cell (World.alloc_heap_new w (.cells #[.bool true] 4)) 0
  simp only [List.getElem?_toArray, List.getElem?_cons_zero] at q0
  have HI := Lib.hid (has62_any _ w.heap.size q0 A c xs (Kd.C_below hC hB1) hn)
  have HB1 := Lib.hid hB1
  clear hC hn hB1 q0
  generalize xs.all cellT = r at *
  go_enter Try.func53, Try.ntmps53
  go_wp2_with (go_at_call 62; refine HI.out.mono ?_; rintro e w3 ⟨rfl, hb3⟩; have HB3 := Lib.hid (below_then HB1.out HB1.out.size hb3); clear hb3)
  go_ret
  exact ⟨by simp, HB3.out⟩

/-- A shape that may be. -/
def shapeOk (s : List Int) : Bool := decide (1 ≤ s.length) && decide (s.length ≤ 16) && s.all cellT

theorem Check32_any (w : World) (A : Option Addr) (c : Nat) (xs : List Int) (hC : (Kd.int .i64).C w A xs.length xs) :
    Calls Try.prog 32 #[.slice A xs.length c] w fun e w' => e = .returned (.int .i64 (if shapeOk xs then 0 else 60)) ∧ Below w.heap.size w w' := by
  have hm := hC.2.1
  obtain ⟨n, hnn⟩ : ∃ n, xs.length = n := ⟨_, rfl⟩
  by_cases h1 : n < 1
  · have hv : shapeOk xs = false := by unfold shapeOk; rw [hnn, decide_eq_false (by omega)]; rfl
    rw [hv, hnn]
    have h1' : (n : Int) < 1 := by omega
    clear hC hv hnn
    go_enter Try.func32, Try.ntmps32
    go_wp2
    go_ret
    exact ⟨rfl, Below.refl _ _⟩
  by_cases h2 : n ≤ 16
  · have HI := Lib.hid (fun W (h : Below w.heap.size w W) => all53_any W A c xs (Kd.C_below hC h) (by omega))
    have hv : shapeOk xs = xs.all cellT := by unfold shapeOk; rw [hnn, decide_eq_true (by omega), decide_eq_true (by omega)]; rfl
    rw [hv]
    rw [hnn] at HI ⊢
    have h1' : ¬ (n : Int) < 1 := by omega
    have h2' : ¬ (16 : Int) < n := by omega
    clear hC hv hnn
    generalize xs.all cellT = r at *
    cases r <;>
    · go_enter Try.func32, Try.ntmps32
      go_wp2_with (go_at_call 53; refine (HI.out _ (Below.refl _ _)).mono ?_; rintro e w3 ⟨rfl, hb3⟩; have HB3 := Lib.hid hb3; clear hb3)
      go_ret
      exact ⟨rfl, HB3.out⟩
  · have hv : shapeOk xs = false := by unfold shapeOk; rw [hnn, decide_eq_false (show ¬ n ≤ 16 by omega), Bool.and_false]; rfl
    rw [hv, hnn]
    have h1' : ¬ (n : Int) < 1 := by omega
    have h2' : (16 : Int) < n := by omega
    clear hC hv hnn
    go_enter Try.func32, Try.ntmps32
    go_wp2
    go_ret
    exact ⟨rfl, Below.refl _ _⟩
end Go.Proofs.Ytnomjjhocblkkaa
