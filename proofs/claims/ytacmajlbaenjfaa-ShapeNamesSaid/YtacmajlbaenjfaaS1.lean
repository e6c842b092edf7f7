/- shape.all, Check, CheckSignature · Types in bytes, four to a byte: plain numbers · packed: types' bytes · A range over a function whose iterator says, of what it hands on, how that hangs on what came before: a law of this seat's own · unpacked: the types in bytes, one by one · types: types read, at most so many: plain part; the iterator's making · types. -/
import Derived.Test.YtacmajlbaenjfaaV2
import Derived.Test.YtacmajlbaenjfaaPRefb
import Derived.LoopTactic
import Derived.Laws.BitsLemmas
import Derived.StillTailTactics
import Derived.RangeFuncRecord
import Derived.Deep.RegionHeld3
import Derived.RangeFuncNested
import Derived.RangeFuncCalls
/- shape.all, Check, CheckSignature. -/
namespace Go.Proofs.Ytacmajlbaenjfaa
open Go.RowKit Go.Shelf Go.Proofs.YtacmajlbaenjfaaW.PrintWords Go.Proofs.YtacmajlbaenjfaaW.PrintLast Go.Proofs.YtacmajlbaenjfaaW.PrintMore
open Go.Proofs.Ytacmajlbaenjfaa.PRef

/-- A type that there is, and, if it has to be held, is no pointer. -/
def knownT (t : Int) : Bool := decide (1 ≤ t) && decide (t < 5)
def tyB (held : Bool) (t : Int) : Bool := knownT t && !(held && decide (t = 4))
theorem known_any (t : Int) (r : Bool) (hr : r = knownT t) (w : World) : Calls Try.prog 74 #[.int .i64 t] w fun e w' => e = .returned (.bool r) ∧ ∃ n, w' = w.drewN n :=
  (value_Known.calls t r w (by subst hr; unfold value_Known.f knownT; by_cases h : 1 ≤ t <;> simp [h])).mono fun _ _ ⟨h1, ⟨h2⟩⟩ => ⟨h1, h2⟩
theorem rd_mem {xs : List Int} {k : Nat} (h : k < xs.length) : xs[k]? = some (rd xs k) := by
  unfold rd
  rw [List.getD_eq_getElem?_getD, Int.toNat_natCast, List.getElem?_eq_getElem h]; rfl

theorem c76_any (w : World) (b : Nat) (held : Bool) (hb : w.cell? ⟨b, 0, none⟩ = some (.bool held)) (t : Int) :
    Calls Try.prog 76 #[.int .i64 t, .pointer (some ⟨b, 0, none⟩)] w fun e w' => e = .returned (.bool (!tyB held t)) ∧ Below w.heap.size w w' := by
  obtain ⟨kn, hkn⟩ : ∃ kn : Bool, kn = knownT t := ⟨_, rfl⟩
  have HKn := Lib.hid (fun w => known_any t kn hkn w)
  have HB := Lib.hid hb
  cases kn with
  | false =>
    have hv : tyB held t = false := by unfold tyB; rw [← hkn]; rfl
    rw [hv]
    clear hkn hv hb
    go_enter Try.func76, Try.ntmps76
    go_wp2_with (go_at_call 74; refine (HKn.out _).mono ?_; rintro e w3 ⟨rfl, mk, hmk⟩; have HB3 : Hid (Below w.heap.size w w3) := Lib.hid (hmk ▸ pw_below_drewN (Below.refl w.heap.size w) mk); clear hmk)
    go_ret
    exact ⟨rfl, HB3.out⟩
  | true =>
    cases held with
    | false =>
      have hv : tyB false t = true := by unfold tyB; rw [← hkn]; rfl
      rw [hv]
      clear hkn hv hb
      go_enter Try.func76, Try.ntmps76
      go_wp2_with (go_at_call 74; refine (HKn.out _).mono ?_; rintro e w3 ⟨rfl, mk, hmk⟩; have HB3 : Hid (Below w.heap.size w w3) := Lib.hid (hmk ▸ pw_below_drewN (Below.refl w.heap.size w) mk); have z := pw_cell_below HB3.out HB.out; clear hmk)
      go_ret
      exact ⟨rfl, HB3.out⟩
    | true =>
      by_cases h4 : t = 4
      · subst h4
        clear hkn hb
        go_enter Try.func76, Try.ntmps76
        go_wp2_with (go_at_call 74; refine (HKn.out _).mono ?_; rintro e w3 ⟨rfl, mk, hmk⟩; have HB3 : Hid (Below w.heap.size w w3) := Lib.hid (hmk ▸ pw_below_drewN (Below.refl w.heap.size w) mk); have z := pw_cell_below HB3.out HB.out; clear hmk)
        go_ret
        exact ⟨rfl, HB3.out⟩
      · have hv : tyB true t = true := by unfold tyB; rw [← hkn]; simp [h4]
        rw [hv]
        have h4' : (t == 4) = false := by simpa using h4
        clear hkn hv hb h4
        go_enter Try.func76, Try.ntmps76
        go_wp2_with (go_at_call 74; refine (HKn.out _).mono ?_; rintro e w3 ⟨rfl, mk, hmk⟩; have HB3 : Hid (Below w.heap.size w w3) := Lib.hid (hmk ▸ pw_below_drewN (Below.refl w.heap.size w) mk); have z := pw_cell_below HB3.out HB.out; clear hmk)
        go_ret
        exact ⟨rfl, HB3.out⟩

set_option maxRecDepth 100000 in
set_option maxHeartbeats 1000000 in
theorem idx97_any (w : World) (b : Nat) (held : Bool) (hb : w.cell? ⟨b, 0, none⟩ = some (.bool held)) (A : Option Addr) (c : Nat) (xs : List Int) (hC : (Kd.int .i64).C w A xs.length xs) (hn : xs.length ≤ 1000) :
    Calls Try.prog 97 #[.slice A xs.length c, .func (.func 76) #[] #[.pointer (some ⟨b, 0, none⟩)]] w fun e w' => (∃ i : Int, e = .returned (.int .i64 i) ∧ (decide (0 ≤ i) = !xs.all (tyB held))) ∧ Below w.heap.size w w' := by
  have HC := Lib.hid hC
  have HBb := Lib.hid hb
  clear hC hb
  go_enter Try.func97, Try.ntmps97
  go_wp2
  go_loopw [8] (fun i W => ∃ k : Nat, i = .int .i64 k ∧ k ≤ xs.length ∧ Aside0 (∀ x ∈ xs.take k, tyB held x = true) ∧ Aside0 (Below w.heap.size w W)) (fun i _ => xs.length - (intOf i).toNat)
  case atStart => exact ⟨0, rfl, by omega, Aside0.mk (by simp), Aside0.mk (Below.refl _ _)⟩
  case round =>
    obtain ⟨k, rfl, hk, HA, HB⟩ := hrel
    by_cases hlt : k < xs.length
    · have hlt2 : (k : Int) < (xs.length : Int) := by omega
      obtain ⟨ad, rfl, e1⟩ := Kd.at_int (Kd.C_below HC.out HB.out) (k : Int) (by omega) (by omega)
      rw [Int.toNat_natCast] at e1
      have HR := Lib.hid (rd_mem hlt)
      have HH := Lib.hid (fun W (h : Below w.heap.size w W) => c76_any W b held (pw_cell_below h HBb.out) (rd xs k))
      generalize rd xs k = x at *
      cases hx : tyB held x with
      | true =>
        rw [hx] at HH
        have HX := Lib.hid hx
        clear hx hk hlt
        go_wp2_with (go_at_call 76; refine (HH.out _ HB.out).mono ?_; rintro e w3 ⟨rfl, hb3⟩; have HB3 := Lib.hid (below_step HB.out hb3); clear hb3)
        refine ⟨⟨k + 1, rfl, by omega, Aside0.mk (fun y hy => ?_), Aside0.mk HB3.out⟩, ?_⟩
        · rw [List.take_add_one, HR.out] at hy
          rcases List.mem_append.1 hy with h1 | h1
          · exact HA.out y h1
          · have h2 : y = x := by simpa using h1
            rw [h2]; exact HX.out
        · show xs.length - ((k : Int) + 1).toNat < xs.length - (k : Int).toNat
          omega
      | false =>
        rw [hx] at HH
        have HX := Lib.hid hx
        clear hx hk hlt
        go_wp2_with (go_at_call 76; refine (HH.out _ HB.out).mono ?_; rintro e w3 ⟨rfl, hb3⟩; have HB3 := Lib.hid (below_step HB.out hb3); clear hb3)
        go_ret
        refine ⟨⟨_, rfl, ?_⟩, HB3.out⟩
        have : xs.all (tyB held) = false := by
          rw [Bool.eq_false_iff]; intro h
          have := List.all_eq_true.1 h x (List.mem_of_getElem? HR.out)
          rw [HX.out] at this; cases this
        rw [this]; simp
    · obtain rfl : k = xs.length := by omega
      go_wp2
      go_ret
      refine ⟨⟨_, rfl, ?_⟩, HB.out⟩
      have h := HA.out
      rw [List.take_length] at h
      rw [List.all_eq_true.2 h]; rfl

theorem has77_any (w : World) (b : Nat) (held : Bool) (hb : w.cell? ⟨b, 0, none⟩ = some (.bool held)) (A : Option Addr) (c : Nat) (xs : List Int) (hC : (Kd.int .i64).C w A xs.length xs) (hn : xs.length ≤ 1000) :
    Calls Try.prog 77 #[.slice A xs.length c, .func (.func 76) #[] #[.pointer (some ⟨b, 0, none⟩)]] w fun e w' => e = .returned (.bool (!xs.all (tyB held))) ∧ Below w.heap.size w w' := by
  have HI := Lib.hid (idx97_any w b held hb A c xs hC hn)
  clear hC hb hn
  generalize xs.all (tyB held) = r at *
  go_enter Try.func77, Try.ntmps77
  go_wp2_with (go_at_call 97; refine HI.out.mono ?_; rintro e w3 ⟨⟨i, rfl, hi⟩, hb3⟩; have HI3 := Lib.hid hi; have HB3 := Lib.hid hb3; clear hi hb3)
  go_ret
  exact ⟨by rw [← HI3.out]; rfl, HB3.out⟩

theorem all50_any (w : World) (held : Bool) (A : Option Addr) (c : Nat) (xs : List Int) (hC : (Kd.int .i64).C w A xs.length xs) (hn : xs.length ≤ 1000) :
    Calls Try.prog 50 #[.slice A xs.length c, .bool held] w fun e w' => e = .returned (.bool (xs.all (tyB held))) ∧ Below w.heap.size w w' := by
  have hB1 : Below w.heap.size w (w.alloc (.cells #[.bool held] 4)) := below_alloc (Below.refl _ _) _
  have q0 := blk_cell (World.alloc_heap_new w (.cells #[.bool held] 4)) 0
  simp only [List.getElem?_toArray, List.getElem?_cons_zero] at q0
  have HI := Lib.hid (has77_any _ w.heap.size held q0 A c xs (Kd.C_below hC hB1) hn)
  have HB1 := Lib.hid hB1
  clear hC hn hB1 q0
  generalize xs.all (tyB held) = r at *
  go_enter Try.func50, Try.ntmps50
  go_wp2_with (go_at_call 77; refine HI.out.mono ?_; rintro e w3 ⟨rfl, hb3⟩; have HB3 := Lib.hid (below_then HB1.out HB1.out.size hb3); clear hb3)
  go_ret
  exact ⟨by simp, HB3.out⟩

theorem c79_any (w : World) (b : Nat) (held : Bool) (hb : w.cell? ⟨b, 0, none⟩ = some (.bool held)) (t : Int) :
    Calls Try.prog 79 #[.int .i64 t, .pointer (some ⟨b, 0, none⟩)] w fun e w' => e = .returned (.bool (!tyB held t)) ∧ Below w.heap.size w w' := by
  obtain ⟨kn, hkn⟩ : ∃ kn : Bool, kn = knownT t := ⟨_, rfl⟩
  have HKn := Lib.hid (fun w => known_any t kn hkn w)
  have HB := Lib.hid hb
  cases kn with
  | false =>
    have hv : tyB held t = false := by unfold tyB; rw [← hkn]; rfl
    rw [hv]
    clear hkn hv hb
    go_enter Try.func79, Try.ntmps79
    go_wp2_with (go_at_call 74; refine (HKn.out _).mono ?_; rintro e w3 ⟨rfl, mk, hmk⟩; have HB3 : Hid (Below w.heap.size w w3) := Lib.hid (hmk ▸ pw_below_drewN (Below.refl w.heap.size w) mk); clear hmk)
    go_ret
    exact ⟨rfl, HB3.out⟩
  | true =>
    cases held with
    | false =>
      have hv : tyB false t = true := by unfold tyB; rw [← hkn]; rfl
      rw [hv]
      clear hkn hv hb
      go_enter Try.func79, Try.ntmps79
      go_wp2_with (go_at_call 74; refine (HKn.out _).mono ?_; rintro e w3 ⟨rfl, mk, hmk⟩; have HB3 : Hid (Below w.heap.size w w3) := Lib.hid (hmk ▸ pw_below_drewN (Below.refl w.heap.size w) mk); have z := pw_cell_below HB3.out HB.out; clear hmk)
      go_ret
      exact ⟨rfl, HB3.out⟩
    | true =>
      by_cases h4 : t = 4
      · subst h4
        clear hkn hb
        go_enter Try.func79, Try.ntmps79
        go_wp2_with (go_at_call 74; refine (HKn.out _).mono ?_; rintro e w3 ⟨rfl, mk, hmk⟩; have HB3 : Hid (Below w.heap.size w w3) := Lib.hid (hmk ▸ pw_below_drewN (Below.refl w.heap.size w) mk); have z := pw_cell_below HB3.out HB.out; clear hmk)
        go_ret
        exact ⟨rfl, HB3.out⟩
      · have hv : tyB true t = true := by unfold tyB; rw [← hkn]; simp [h4]
        rw [hv]
        have h4' : (t == 4) = false := by simpa using h4
        clear hkn hv hb h4
        go_enter Try.func79, Try.ntmps79
        go_wp2_with (go_at_call 74; refine (HKn.out _).mono ?_; rintro e w3 ⟨rfl, mk, hmk⟩; have HB3 : Hid (Below w.heap.size w w3) := Lib.hid (hmk ▸ pw_below_drewN (Below.refl w.heap.size w) mk); have z := pw_cell_below HB3.out HB.out; clear hmk)
        go_ret
        exact ⟨rfl, HB3.out⟩

set_option maxRecDepth 100000 in
set_option maxHeartbeats 1000000 in
theorem idx98_any (w : World) (b : Nat) (held : Bool) (hb : w.cell? ⟨b, 0, none⟩ = some (.bool held)) (A : Option Addr) (c : Nat) (xs : List Int) (hC : (Kd.int .i64).C w A xs.length xs) (hn : xs.length ≤ 1000) :
    Calls Try.prog 98 #[.slice A xs.length c, .func (.func 79) #[] #[.pointer (some ⟨b, 0, none⟩)]] w fun e w' => (∃ i : Int, e = .returned (.int .i64 i) ∧ (decide (0 ≤ i) = !xs.all (tyB held))) ∧ Below w.heap.size w w' := by
  have HC := Lib.hid hC
  have HBb := Lib.hid hb
  clear hC hb
  go_enter Try.func98, Try.ntmps98
  go_wp2
  go_loopw [8] (fun i W => ∃ k : Nat, i = .int .i64 k ∧ k ≤ xs.length ∧ Aside0 (∀ x ∈ xs.take k, tyB held x = true) ∧ Aside0 (Below w.heap.size w W)) (fun i _ => xs.length - (intOf i).toNat)
  case atStart => exact ⟨0, rfl, by omega, Aside0.mk (by simp), Aside0.mk (Below.refl _ _)⟩
  case round =>
    obtain ⟨k, rfl, hk, HA, HB⟩ := hrel
    by_cases hlt : k < xs.length
    · have hlt2 : (k : Int) < (xs.length : Int) := by omega
      obtain ⟨ad, rfl, e1⟩ := Kd.at_int (Kd.C_below HC.out HB.out) (k : Int) (by omega) (by omega)
      rw [Int.toNat_natCast] at e1
      have HR := Lib.hid (rd_mem hlt)
      have HH := Lib.hid (fun W (h : Below w.heap.size w W) => c79_any W b held (pw_cell_below h HBb.out) (rd xs k))
      generalize rd xs k = x at *
      cases hx : tyB held x with
      | true =>
        rw [hx] at HH
        have HX := Lib.hid hx
        clear hx hk hlt
        go_wp2_with (go_at_call 79; refine (HH.out _ HB.out).mono ?_; rintro e w3 ⟨rfl, hb3⟩; have HB3 := Lib.hid (below_step HB.out hb3); clear hb3)
        refine ⟨⟨k + 1, rfl, by omega, Aside0.mk (fun y hy => ?_), Aside0.mk HB3.out⟩, ?_⟩
        · rw [List.take_add_one, HR.out] at hy
          rcases List.mem_append.1 hy with h1 | h1
          · exact HA.out y h1
          · have h2 : y = x := by simpa using h1
            rw [h2]; exact HX.out
        · show xs.length - ((k : Int) + 1).toNat < xs.length - (k : Int).toNat
          omega
      | false =>
        rw [hx] at HH
        have HX := Lib.hid hx
        clear hx hk hlt
        go_wp2_with (go_at_call 79; refine (HH.out _ HB.out).mono ?_; rintro e w3 ⟨rfl, hb3⟩; have HB3 := Lib.hid (below_step HB.out hb3); clear hb3)
        go_ret
        refine ⟨⟨_, rfl, ?_⟩, HB3.out⟩
        have : xs.all (tyB held) = false := by
          rw [Bool.eq_false_iff]; intro h
          have := List.all_eq_true.1 h x (List.mem_of_getElem? HR.out)
          rw [HX.out] at this; cases this
        rw [this]; simp
    · obtain rfl : k = xs.length := by omega
      go_wp2
      go_ret
      refine ⟨⟨_, rfl, ?_⟩, HB.out⟩
      have h := HA.out
      rw [List.take_length] at h
      rw [List.all_eq_true.2 h]; rfl

theorem has80_any (w : World) (b : Nat) (held : Bool) (hb : w.cell? ⟨b, 0, none⟩ = some (.bool held)) (A : Option Addr) (c : Nat) (xs : List Int) (hC : (Kd.int .i64).C w A xs.length xs) (hn : xs.length ≤ 1000) :
    Calls Try.prog 80 #[.slice A xs.length c, .func (.func 79) #[] #[.pointer (some ⟨b, 0, none⟩)]] w fun e w' => e = .returned (.bool (!xs.all (tyB held))) ∧ Below w.heap.size w w' := by
  have HI := Lib.hid (idx98_any w b held hb A c xs hC hn)
  clear hC hb hn
  generalize xs.all (tyB held) = r at *
  go_enter Try.func80, Try.ntmps80
  go_wp2_with (go_at_call 98; refine HI.out.mono ?_; rintro e w3 ⟨⟨i, rfl, hi⟩, hb3⟩; have HI3 := Lib.hid hi; have HB3 := Lib.hid hb3; clear hi hb3)
  go_ret
  exact ⟨by rw [← HI3.out]; rfl, HB3.out⟩

theorem all54_any (w : World) (held : Bool) (A : Option Addr) (c : Nat) (xs : List Int) (hC : (Kd.int .i64).C w A xs.length xs) (hn : xs.length ≤ 1000) :
    Calls Try.prog 54 #[.slice A xs.length c, .bool held] w fun e w' => e = .returned (.bool (xs.all (tyB held))) ∧ Below w.heap.size w w' := by
  have hB1 : Below w.heap.size w (w.alloc (.cells #[.bool held] 4)) := below_alloc (Below.refl _ _) _
  have q0 := blk_cell (World.alloc_heap_new w (.cells #[.bool held] 4)) 0
  simp only [List.getElem?_toArray, List.getElem?_cons_zero] at q0
  have HI := Lib.hid (has80_any _ w.heap.size held q0 A c xs (Kd.C_below hC hB1) hn)
  have HB1 := Lib.hid hB1
  clear hC hn hB1 q0
  generalize xs.all (tyB held) = r at *
  go_enter Try.func54, Try.ntmps54
  go_wp2_with (go_at_call 80; refine HI.out.mono ?_; rintro e w3 ⟨rfl, hb3⟩; have HB3 := Lib.hid (below_then HB1.out HB1.out.size hb3); clear hb3)
  go_ret
  exact ⟨by simp, HB3.out⟩

/-- A shape that may be. -/
def shapeOk (s : List Int) : Bool := decide (1 ≤ s.length) && decide (s.length ≤ 16) && s.all (tyB true)

theorem Check_any (w : World) (A : Option Addr) (c : Nat) (xs : List Int) (hC : (Kd.int .i64).C w A xs.length xs) :
    Calls Try.prog 22 #[.slice A xs.length c] w fun e w' => e = .returned (.int .i64 (if shapeOk xs then 0 else 60)) ∧ Below w.heap.size w w' := by
  have hm := hC.2.1
  obtain ⟨n, hnn⟩ : ∃ n, xs.length = n := ⟨_, rfl⟩
  by_cases h1 : n < 1
  · have hv : shapeOk xs = false := by unfold shapeOk; rw [hnn, decide_eq_false (by omega)]; rfl
    rw [hv, hnn]
    have h1' : (n : Int) < 1 := by omega
    clear hC hv hnn
    go_enter Try.func22, Try.ntmps22
    go_wp2
    go_ret
    exact ⟨rfl, Below.refl _ _⟩
  by_cases h2 : n ≤ 16
  · have HI := Lib.hid (fun W (h : Below w.heap.size w W) => all50_any W true A c xs (Kd.C_below hC h) (by omega))
    have hv : shapeOk xs = xs.all (tyB true) := by unfold shapeOk; rw [hnn, decide_eq_true (by omega), decide_eq_true (by omega)]; rfl
    rw [hv]
    rw [hnn] at HI ⊢
    have h1' : ¬ (n : Int) < 1 := by omega
    have h2' : ¬ (16 : Int) < n := by omega
    clear hC hv hnn
    generalize xs.all (tyB true) = r at *
    cases r <;>
    · go_enter Try.func22, Try.ntmps22
      go_wp2_with (go_at_call 50; refine (HI.out _ (Below.refl _ _)).mono ?_; rintro e w3 ⟨rfl, hb3⟩; have HB3 := Lib.hid hb3; clear hb3)
      go_ret
      exact ⟨rfl, HB3.out⟩
  · have hv : shapeOk xs = false := by unfold shapeOk; rw [hnn, decide_eq_false (show ¬ n ≤ 16 by omega), Bool.and_false]; rfl
    rw [hv, hnn]
    have h1' : ¬ (n : Int) < 1 := by omega
    have h2' : (16 : Int) < n := by omega
    clear hC hv hnn
    go_enter Try.func22, Try.ntmps22
    go_wp2
    go_ret
    exact ⟨rfl, Below.refl _ _⟩

/-- A signature that may be. -/
def sigOk (a r : List Int) : Bool := decide (a.length + r.length ≤ 64) && a.all (tyB false) && r.all (tyB true)

theorem CheckSig_any (w : World) (A B : Option Addr) (c d : Nat) (xs ys : List Int) (hC : (Kd.int .i64).C w A xs.length xs) (hD : (Kd.int .i64).C w B ys.length ys) (hx : xs.length ≤ 1000) (hy : ys.length ≤ 1000) :
    Calls Try.prog 27 #[.agg #[.slice A xs.length c, .slice B ys.length d]] w fun e w' => e = .returned (.int .i64 (if sigOk xs ys then 0 else 61)) ∧ Below w.heap.size w w' := by
  have hB0 := below_alloc (Below.refl w.heap.size w) (.cells #[.slice A xs.length c, .slice B ys.length d] 26)
  have hE := World.alloc_heap_new w (.cells #[.slice A xs.length c, .slice B ys.length d] 26)
  have HB0 := Lib.hid hB0
  by_cases hl : xs.length + ys.length ≤ 64
  · have HI := Lib.hid (fun W (h : Below w.heap.size w W) => all54_any W false A c xs (Kd.C_below hC h) hx)
    have HJ := Lib.hid (fun W (h : Below w.heap.size w W) => all54_any W true B d ys (Kd.C_below hD h) hy)
    have hv : sigOk xs ys = (xs.all (tyB false) && ys.all (tyB true)) := by unfold sigOk; rw [decide_eq_true hl]; rfl
    rw [hv]
    have hl' : ¬ (64 : Int) < (xs.length : Int) + (ys.length : Int) := by omega
    generalize xs.length = n at *
    generalize ys.length = m at *
    have HE := Lib.hid hE
    clear hC hD hv hE hB0
    generalize xs.all (tyB false) = r at *
    generalize ys.all (tyB true) = s at *
    cases r
    · go_enter Try.func27, Try.ntmps27
      go_wp2_with (go_at_call 54; refine (HI.out _ HB0.out).mono ?_; rintro e w3 ⟨rfl, hb3⟩; have HB3 := Lib.hid (below_then HB0.out HB0.out.size hb3); clear hb3)
      go_ret
      exact ⟨rfl, HB3.out⟩
    · cases s <;>
      · go_enter Try.func27, Try.ntmps27
        go_wp2_with (first | (go_at_call 54; (with_reducible refine (HI.out _ HB0.out).mono ?_); rintro e w3 ⟨rfl, hb3⟩; have HB3 := Lib.hid (below_then HB0.out HB0.out.size hb3); have E := (hb3.block _ (blk_lt HE.out)).trans HE.out; have q0 := blk_cell E 0; have q1 := blk_cell E 1; simp only [List.getElem?_toArray, List.getElem?_cons_zero, List.getElem?_cons_succ] at q0 q1; clear hb3 E) | (go_at_call 54; (with_reducible refine (HJ.out _ HB3.out).mono ?_); rintro e w4 ⟨rfl, hb4⟩; have HB4 := Lib.hid (below_then HB3.out HB3.out.size hb4); clear hb4))
        go_ret
        exact ⟨rfl, HB4.out⟩
  · have hv : sigOk xs ys = false := by unfold sigOk; rw [decide_eq_false hl]; rfl
    rw [hv]
    have hl' : (64 : Int) < (xs.length : Int) + (ys.length : Int) := by omega
    generalize xs.length = n at *
    generalize ys.length = m at *
    clear hC hD hv hE hB0
    go_enter Try.func27, Try.ntmps27
    go_wp2
    go_ret
    exact ⟨rfl, HB0.out⟩
end Go.Proofs.Ytacmajlbaenjfaa

/- Types in bytes, four to a byte: plain numbers. -/
namespace Go.Proofs.Ytacmajlbaenjfaa
open Go.RowKit Go.Shelf Go.Proofs.YtacmajlbaenjfaaW.PrintWords Go.Proofs.YtacmajlbaenjfaaW.PrintLast Go.Proofs.YtacmajlbaenjfaaW.PrintMore

theorem World.alloc_heap_old' (W : World) (o : Obj) {i : Nat} (h : i < W.heap.size) : (W.alloc o).heap[i]? = W.heap[i]? := (below_alloc (Below.refl _ W) o).block i h
/-- One type's share in a byte, of the first k types. -/
def sh (xs : List Int) (k j i : Nat) : Int := if 4 * j + i < k then (rd xs ((4 * j + i : Nat) : Int) - 1) * 4 ^ i else 0
/-- Byte j, of the first k types. -/
def pk (xs : List Int) (k j : Nat) : Int := sh xs k j 0 + sh xs k j 1 + sh xs k j 2 + sh xs k j 3
def arrL (xs : List Int) (k : Nat) : List Int := (List.range 16).map (pk xs k)
def bytesL (xs : List Int) : List Int := (arrL xs xs.length).take ((xs.length + 3) / 4)
def packL (xs : List Int) : List Int := encI xs.length ++ bytesL xs

theorem arrL_zero (xs : List Int) : arrL xs 0 = List.replicate 16 0 := by simp [arrL, pk, sh, List.replicate_succ, List.range_succ]
theorem arrL_length (xs : List Int) (k : Nat) : (arrL xs k).length = 16 := by simp [arrL]
theorem sh_step (xs : List Int) {q r : Nat} (hr : r < 4) (j i : Nat) (hi : i < 4) : sh xs (4 * q + r + 1) j i = if j = q ∧ i = r then (rd xs ((4 * q + r : Nat) : Int) - 1) * 4 ^ r else sh xs (4 * q + r) j i := by
  unfold sh
  by_cases h : j = q ∧ i = r
  · obtain ⟨rfl, rfl⟩ := h
    rw [if_pos (by omega), if_pos ⟨rfl, rfl⟩]
  · rw [if_neg h]
    by_cases h1 : 4 * j + i < 4 * q + r
    · rw [if_pos (by omega), if_pos h1]
    · rw [if_neg (by omega), if_neg h1]
theorem sh_zero (xs : List Int) {q r : Nat} {i : Nat} (hi : r ≤ i) : sh xs (4 * q + r) q i = 0 := by
  unfold sh
  rw [if_neg (by omega)]
theorem pk_step (xs : List Int) {q r : Nat} (hr : r < 4) (j : Nat) : pk xs (4 * q + r + 1) j = if j = q then pk xs (4 * q + r) q + (rd xs ((4 * q + r : Nat) : Int) - 1) * 4 ^ r else pk xs (4 * q + r) j := by
  unfold pk
  rw [sh_step xs hr j 0 (by omega), sh_step xs hr j 1 (by omega), sh_step xs hr j 2 (by omega), sh_step xs hr j 3 (by omega)]
  by_cases h : j = q
  · subst h
    rw [if_pos rfl]
    match r, hr with
    | 0, _ =>
      have h0 := sh_zero xs (q := j) (r := 0) (i := 0) (by omega)
      simp at h0
      simp [h0]; omega
    | 1, _ => simp [sh_zero xs (q := j) (r := 1) (i := 1) (by omega)]; omega
    | 2, _ => simp [sh_zero xs (q := j) (r := 2) (i := 2) (by omega)]; omega
    | 3, _ => simp [sh_zero xs (q := j) (r := 3) (i := 3) (by omega)]
  · simp [h]
theorem sh_bd (xs : List Int) (hk : ∀ x ∈ xs, 1 ≤ x ∧ x ≤ 4) {k j i : Nat} (hkl : k ≤ xs.length) : 0 ≤ sh xs k j i ∧ sh xs k j i ≤ 3 * 4 ^ i := by
  unfold sh
  split
  · have h := hk (rd xs ((4 * j + i : Nat) : Int)) (List.mem_of_getElem? (rd_mem (by omega)))
    have h4 : (0 : Int) ≤ 4 ^ i := Int.pow_nonneg (by omega)
    exact ⟨Int.mul_nonneg (by omega) h4, Int.mul_le_mul_of_nonneg_right (by omega) h4⟩
  · exact ⟨Int.le_refl _, Int.mul_nonneg (by omega) (Int.pow_nonneg (by omega))⟩
theorem pk_bd (xs : List Int) (hk : ∀ x ∈ xs, 1 ≤ x ∧ x ≤ 4) {q r : Nat} (hr : r < 4) (hkl : 4 * q + r ≤ xs.length) : 0 ≤ pk xs (4 * q + r) q ∧ pk xs (4 * q + r) q < 4 ^ r := by
  have h0 := sh_bd xs hk (j := q) (i := 0) hkl
  have h1 := sh_bd xs hk (j := q) (i := 1) hkl
  have h2 := sh_bd xs hk (j := q) (i := 2) hkl
  have h3 := sh_bd xs hk (j := q) (i := 3) hkl
  unfold pk
  match r, hr with
  | 0, _ =>
    rw [sh_zero xs (r := 0) (i := 0) (by omega), sh_zero xs (r := 0) (i := 1) (by omega), sh_zero xs (r := 0) (i := 2) (by omega), sh_zero xs (r := 0) (i := 3) (by omega)]
    decide
  | 1, _ =>
    rw [sh_zero xs (r := 1) (i := 1) (by omega), sh_zero xs (r := 1) (i := 2) (by omega), sh_zero xs (r := 1) (i := 3) (by omega)]
    simp at h0 ⊢
    omega
  | 2, _ =>
    rw [sh_zero xs (r := 2) (i := 2) (by omega), sh_zero xs (r := 2) (i := 3) (by omega)]
    simp at h0 h1 ⊢
    omega
  | 3, _ =>
    rw [sh_zero xs (r := 3) (i := 3) (by omega)]
    simp at h0 h1 h2 ⊢
    omega
theorem pk_byte (xs : List Int) (hk : ∀ x ∈ xs, 1 ≤ x ∧ x ≤ 4) {k j : Nat} (hkl : k ≤ xs.length) : 0 ≤ pk xs k j ∧ pk xs k j ≤ 255 := by
  have h0 := sh_bd xs hk (j := j) (i := 0) hkl
  have h1 := sh_bd xs hk (j := j) (i := 1) hkl
  have h2 := sh_bd xs hk (j := j) (i := 2) hkl
  have h3 := sh_bd xs hk (j := j) (i := 3) hkl
  unfold pk
  simp at h0 h1 h2 h3
  omega
theorem arrL_set (xs : List Int) {q r : Nat} (hr : r < 4) (hq : q < 16) : (arrL xs (4 * q + r)).set q (pk xs (4 * q + r) q + (rd xs ((4 * q + r : Nat) : Int) - 1) * 4 ^ r) = arrL xs (4 * q + r + 1) := by
  apply List.ext_getElem?
  intro j
  simp only [arrL, List.getElem?_set, List.getElem?_map]
  by_cases hj : j < 16
  · rw [List.getElem?_range hj]
    simp only [Option.map_some, List.length_map, List.length_range]
    rw [pk_step xs hr j]
    by_cases h : q = j
    · subst h; simp [hq]
    · have h' : ¬ j = q := fun e => h e.symm
      simp [h, h']
  · rw [List.getElem?_eq_none (by simp; omega)]
    by_cases h : q = j
    · omega
    · simp [h]
theorem arrL_at (xs : List Int) (k : Nat) {j : Nat} (hj : j < 16) : (arrL xs k)[j]? = some (pk xs k j) := by
  unfold arrL
  rw [List.getElem?_map, List.getElem?_range hj]; rfl

theorem or_fin : ∀ r : Fin 4, ∀ b : Fin 64, ∀ y : Fin 4, b.val < 4 ^ r.val → Go.bits .or .u8 (b.val : Int) (IntKind.u8.wrap ((y.val : Int) * 2 ^ (2 * r.val))) = ((b.val + y.val * 4 ^ r.val : Nat) : Int) := by decide +kernel
theorem or_pack {r : Nat} {b y : Int} (hr : r < 4) (hb0 : 0 ≤ b) (hb1 : b < 4 ^ r) (hy0 : 0 ≤ y) (hy1 : y < 4) : Go.bits .or .u8 b (IntKind.u8.wrap (y * 2 ^ (2 * (r : Int)).toNat)) = b + y * 4 ^ r := by
  obtain ⟨n, rfl⟩ := Int.eq_ofNat_of_zero_le hb0
  obtain ⟨m, rfl⟩ := Int.eq_ofNat_of_zero_le hy0
  have hn : n < 4 ^ r := by exact_mod_cast hb1
  have h64 : n < 64 := by
    have : 4 ^ r ≤ 4 ^ 3 := Nat.pow_le_pow_right (by omega) (by omega)
    omega
  have h := or_fin ⟨r, hr⟩ ⟨n, h64⟩ ⟨m, by omega⟩ hn
  rw [show (2 * (r : Int)).toNat = 2 * r by omega]
  rw [h]
  push_cast
  rfl
theorem or_pack2 {r : Nat} {b y : Int} (hr : r < 4) (hb0 : 0 ≤ b) (hb1 : b < 4 ^ r) (hy0 : 0 ≤ y) (hy1 : y < 4) : Go.bits .or .u8 b (y * 2 ^ (2 * r) % 256) = b + y * 4 ^ r := by
  have h := or_pack hr hb0 hb1 hy0 hy1
  rw [IntKind.wrap_u8, show (2 * (r : Int)).toNat = 2 * r by omega] at h
  exact h
end Go.Proofs.Ytacmajlbaenjfaa

/- packed: types' bytes. -/
namespace Go.Proofs.Ytacmajlbaenjfaa
open Go.RowKit Go.Shelf Go.Proofs.YtacmajlbaenjfaaW.PrintWords Go.Proofs.YtacmajlbaenjfaaW.PrintLast Go.Proofs.YtacmajlbaenjfaaW.PrintMore

theorem arr_blk {W : World} {b : Nat} {xs : List Int} {k : Nat} (h : W.heap[b]? = some (.cells ((arrL xs k).map (Value.int .u8)).toArray 109 (0, 0))) {j : Nat} (hj : j < 16) : W.cell? ⟨b, j, none⟩ = some (.int .u8 (pk xs k j)) := by
  rw [blk_cell h j]
  simp [arrL_at xs k hj]
theorem arr_zero (xs : List Int) : (((arrL xs 0).map (Value.int .u8)).toArray) = #[.int .u8 0, .int .u8 0, .int .u8 0, .int .u8 0, .int .u8 0, .int .u8 0, .int .u8 0, .int .u8 0, .int .u8 0, .int .u8 0, .int .u8 0, .int .u8 0, .int .u8 0, .int .u8 0, .int .u8 0, .int .u8 0] := by rw [arrL_zero]; rfl
theorem arr_set {W : World} {b : Nat} {xs : List Int} {q r : Nat} (h : W.heap[b]? = some (.cells ((arrL xs (4 * q + r)).map (Value.int .u8)).toArray 109 (0, 0))) (hr : r < 4) (hq : q < 16) :
    (W.setCell ⟨b, q, none⟩ (.int .u8 (pk xs (4 * q + r) q + (rd xs ((4 * q + r : Nat) : Int) - 1) * 4 ^ r))).heap[b]? = some (.cells ((arrL xs (4 * q + r + 1)).map (Value.int .u8)).toArray 109 (0, 0)) := by
  have h2 := blk_set h q (.int .u8 (pk xs (4 * q + r) q + (rd xs ((4 * q + r : Nat) : Int) - 1) * 4 ^ r))
  rw [← arrL_set xs hr hq, List.map_set]
  simpa using h2
theorem fr_from {S : Nat → Prop} {W0 W W' : World} (h : Fr S W0 W') (hb : Below W.heap.size W W0) : Fr S W W' := (Fr.of_below (S := S) hb).trans h (fun _ _ e => e)
/-- The array's first m bytes, as a slice. -/
theorem arr_C {W : World} {b : Nat} {xs : List Int} {k m : Nat} (h : W.heap[b]? = some (.cells ((arrL xs k).map (Value.int .u8)).toArray 109 (0, 0))) (hm : m ≤ 16) : (Kd.int .u8).C W (some ⟨b, 0, none⟩) m ((arrL xs k).take m) := by
  have hl : ((arrL xs k).take m).length = m := by rw [List.length_take, arrL_length]; omega
  refine Kd.C_of_reads (enc := Value.int .u8) (d := (0 : Int)) (h1 := fun _ => rfl) ⟨hl, by omega, fun _ => ⟨_, rfl, fun j hj => ?_⟩⟩
  rw [Addr.add_lit, List.getD_eq_getElem?_getD, List.getElem?_take_of_lt hj, arrL_at xs k (by omega)]
  simpa using arr_blk h (by omega : j < 16)

set_option maxRecDepth 100000 in
set_option maxHeartbeats 2000000 in
theorem packed43_any (w : World) (A : Option Addr) (c : Nat) (xs : List Int) (hC : (Kd.int .i64).C w A xs.length xs) (hn : xs.length ≤ 64) (hk : ∀ x ∈ xs, 1 ≤ x ∧ x ≤ 4) :
    Calls Try.prog 43 #[.slice A xs.length c] w fun e w' => ∃ v, e = .returned v ∧ w'.ownsRow w.heap.size 5 1 v (packL xs).length (nums .u8 (packL xs)) ∧ Below w.heap.size w w' := by
  have HC := Lib.hid hC
  have HK := Lib.hid hk
  clear hC hk
  have hB0 : Below w.heap.size w ((w.alloc (.cells #[.slice none 0 0] 108)).alloc (.cells ((arrL xs 0).map (Value.int .u8)).toArray 109)) := ((Below.refl w.heap.size w).alloc (Nat.le_refl _) _).alloc (by simp) _
  have hT0 := (World.alloc_heap_old' (w.alloc (.cells #[.slice none 0 0] 108)) (.cells ((arrL xs 0).map (Value.int .u8)).toArray 109) (i := w.heap.size) (by simp)).trans (World.alloc_heap_new w _)
  have hA0 := World.alloc_heap_new (w.alloc (.cells #[.slice none 0 0] 108)) (.cells ((arrL xs 0).map (Value.int .u8)).toArray 109)
  rw [World.size_alloc] at hA0
  have HB0 := Lib.hid hB0
  have HT0 := Lib.hid hT0
  have HA0 := Lib.hid hA0
  have HZ := Lib.hid (arr_zero xs)
  clear hB0 hT0 hA0
  go_enter Try.func43, Try.ntmps43
  go_wp2
  rw [← HZ.out]
  generalize (w.alloc (.cells #[.slice none 0 0] 108)).alloc (.cells ((arrL xs 0).map (Value.int .u8)).toArray 109) = w0 at *
  go_loopw [9] (fun i W => ∃ k : Nat, i = .int .i64 k ∧ k ≤ xs.length ∧ Aside0 (W.heap[w.heap.size]? = some (.cells #[.slice none 0 0] 108 (0, 0))) ∧ Aside0 (W.heap[w.heap.size + 1]? = some (.cells ((arrL xs k).map (Value.int .u8)).toArray 109 (0, 0))) ∧ Aside0 (Below w.heap.size w W)) (fun i _ => xs.length - (intOf i).toNat)
  case atStart => exact ⟨0, rfl, Nat.zero_le _, Aside0.mk HT0.out, Aside0.mk HA0.out, Aside0.mk HB0.out⟩
  case round =>
    clear HT0 HA0 HB0
    obtain ⟨k, rfl, hk, HT, HA, HB⟩ := hrel
    by_cases hlt : k < xs.length
    · have hlt2 : (k : Int) < (xs.length : Int) := by omega
      obtain ⟨ad, rfl, e1⟩ := Kd.at_int (Kd.C_below HC.out HB.out) (k : Int) (by omega) (by omega)
      rw [Int.toNat_natCast] at e1
      obtain ⟨hx1, hx2⟩ := HK.out (rd xs k) (List.mem_of_getElem? (rd_mem hlt))
      obtain ⟨q, r, hr4, hqr⟩ : ∃ q r : Nat, r < 4 ∧ k = 4 * q + r := ⟨k / 4, k % 4, by omega, by omega⟩
      have HQR := Lib.hid hqr
      have hq1 : (k : Int) / 4 = (q : Int) := by omega
      have hq2 : (k : Int).tdiv 4 = (q : Int) := by rw [Int.tdiv_eq_ediv_of_nonneg (by omega)]; exact hq1
      have hr1 : (k : Int) % 4 = (r : Int) := by omega
      have hr2 : (k : Int).tmod 4 = (r : Int) := by rw [Int.tmod_eq_emod_of_nonneg (by omega)]; exact hr1
      have hq16 : q < 16 := by omega
      have hq0 : (0 : Int) ≤ (q : Int) := by omega
      have hq16i : (q : Int) < 16 := by omega
      obtain ⟨hb0, hb1⟩ := pk_bd xs HK.out (q := q) hr4 (by omega)
      rw [← hqr] at hb0 hb1
      have z := arr_blk HA.out hq16
      have z2 := blk_frozen HA.out q
      have HAs := Lib.hid (fun (W : World) (h : W.heap[w.heap.size + 1]? = some (.cells ((arrL xs (4 * q + r)).map (Value.int .u8)).toArray 109 (0, 0))) => arr_set h hr4 hq16)
      rw [← hqr] at HAs
      have hor := or_pack2 hr4 hb0 hb1 (show 0 ≤ rd xs (k : Int) - 1 by omega) (by omega)
      have HOr := Lib.hid hor
      have hw1 : IntKind.i64.wrap (q : Int) = q := by rw [IntKind.wrap_i64]; omega
      have hw2 : IntKind.i64.wrap (r : Int) = r := by rw [IntKind.wrap_i64]; omega
      have hw3 : IntKind.i64.wrap (rd xs (k : Int) - 1) = rd xs (k : Int) - 1 := by rw [IntKind.wrap_i64]; omega
      have hw4 : IntKind.u8.wrap (rd xs (k : Int) - 1) = rd xs (k : Int) - 1 := by unfold IntKind.wrap; simp [IntKind.bits, IntKind.signed]; omega
      have hw5 : IntKind.i64.wrap (2 * (r : Int)) = 2 * (r : Int) := by rw [IntKind.wrap_i64]; omega
      clear hqr hor hb0 hb1
      generalize pk xs k q = b at *
      generalize rd xs (k : Int) = x at *
      go_wp2
      go_still_tail 13, (by kernel_rfl)
      go_wp2
      clear hw1 hw2 hw3 hw4 hw5 hq1 hq2 hr1 hr2
      go_roundw
      case rel => exact ⟨k + 1, by go_num, by omega, Aside0.mk ((Below.heap_setCell wr ⟨w.heap.size + 1, q, none⟩ _ w.heap.size (by simp)).trans HT.out), Aside0.mk (by rw [HOr.out]; exact HAs.out _ HA.out), Aside0.mk (below_drew (HB.out.setCell (by simp) _))⟩
      case measure => simp [intOf]; omega
    · obtain rfl : k = xs.length := by omega
      have hTp : TapeIs wr w.heap.size w.heap.size (.slice none 0 0) [] := ⟨HT.out, World.ownsRow_nil _ _ _ _⟩
      have HTN := Lib.hid (fun (W : World) (h : Below wr.heap.size wr W) => TNumber_any W w.heap.size w.heap.size xs.length (.slice none 0 0) [] (by omega) ⟨(h.block _ (blk_lt HT.out)).trans HT.out, World.ownsRow_nil _ _ _ _⟩ (Nat.le_trans HB.out.size h.size) (by simp))
      have hm : ((xs.length : Int) + 4 - 1) / 4 = (((xs.length + 3) / 4 : Nat) : Int) := by omega
      have hm2 : ((xs.length : Int) + 4 - 1).tdiv 4 = (((xs.length + 3) / 4 : Nat) : Int) := by rw [Int.tdiv_eq_ediv_of_nonneg (by omega)]; exact hm
      obtain ⟨m, hmm⟩ : ∃ m, (xs.length + 3) / 4 = m := ⟨_, rfl⟩
      rw [hmm] at hm hm2
      have hm16 : m ≤ 16 := by omega
      have hm16i : (m : Int) ≤ 16 := by omega
      have hm0 : (0 : Int) ≤ (m : Int) := by omega
      have hw1 : IntKind.i64.wrap ((xs.length : Int) + 4) = (xs.length : Int) + 4 := by rw [IntKind.wrap_i64]; omega
      have hw2 : IntKind.i64.wrap ((xs.length : Int) + 4 - 1) = (xs.length : Int) + 4 - 1 := by rw [IntKind.wrap_i64]; omega
      have hw3 : IntKind.i64.wrap (m : Int) = m := by rw [IntKind.wrap_i64]; omega
      have hw4 : IntKind.u64.wrap (xs.length : Int) = xs.length := by unfold IntKind.wrap; simp [IntKind.bits, IntKind.signed]; omega
      clear hTp
      go_wp2
      have hel : (encI xs.length).length ≤ 9 := by rw [encI_length]; exact (VP.wid_pos _).2
      have HEL := Lib.hid hel
      clear hel
      go_region_held3 (fun _ => True) (trivial) ((first | (go_at_call 65; (with_reducible refine (HTN.out _ (by repeat (first | exact Below.refl _ _ | apply below_drew | apply below_alloc))).mono ?_); rintro e w3 ⟨rfl, ⟨v3, hT3, hv3⟩, hF3⟩; have HT3 := Lib.hid hT3; have hf := fr_from hF3 (W := wr) (by repeat (first | exact Below.refl _ _ | apply below_drew | apply below_alloc)); have HA3 := Lib.hid ((hf.block (w.heap.size + 1) (blk_lt HA.out) (by simp [Value.ownBlock])).trans HA.out); have HB3 := Lib.hid (HB.out.trans (hf.below HB.out.size (fun i hi hS => by simp [Value.ownBlock] at hS; omega))); clear hT3 hv3 hF3 hf) | (go_at_call 66; (with_reducible refine (TAll_any _ w.heap.size w.heap.size v3 _ HT3.out (by have := HEL.out; simp; omega)).mono ?_); rintro e w4 ⟨u, rfl, hu, hb⟩; have HU := Lib.hid (own_less hu HB3.out.size); have HA4 := Lib.hid ((hb.block (w.heap.size + 1) (blk_lt HA3.out)).trans HA3.out); have HB4 := Lib.hid (below_then HB3.out HB3.out.size hb); clear hu hb) | (refine Kd.R_append_rows_step (Kd.int .u8) (w0 := w) (Rr := fun x cs => cs = [Value.int .u8 x]) w.heap.size rfl (.tmp 32) (.tmp 38) 23 5 (.int .u8 0) 1 rfl Try.underlying23 info5 rfl (by decide) (by omega) u (encI xs.length) ((arrL xs xs.length).take m) (some ⟨w.heap.size + 1, 0, none⟩) m 16 (fun _ => True) (fun _ => False) rfl rfl (Kd.R_of_own HU.out (fun _ _ => trivial)) (arr_C HA4.out hm16) (fun _ _ h => h) (fun _ h => h.elim) (fun _ _ => trivial) HB4.out HB4.out.size (by have := HEL.out; omega) ?_; intro v5 w5 hR5 hB5 _ _; have HR5 := Lib.hid hR5; have HB5 := Lib.hid hB5; clear hR5 hB5)))
      go_wp2
      go_ret
      exact ⟨_, rfl, by unfold packL bytesL; rw [hmm]; exact Kd.own_of_R HR5.out, HB5.out⟩
set_option maxRecDepth 100000 in
set_option maxHeartbeats 2000000 in
theorem packed56_any (w : World) (A : Option Addr) (c : Nat) (xs : List Int) (hC : (Kd.int .i64).C w A xs.length xs) (hn : xs.length ≤ 64) (hk : ∀ x ∈ xs, 1 ≤ x ∧ x ≤ 4) :
    Calls Try.prog 56 #[.slice A xs.length c] w fun e w' => ∃ v, e = .returned v ∧ w'.ownsRow w.heap.size 5 1 v (packL xs).length (nums .u8 (packL xs)) ∧ Below w.heap.size w w' := by
  have HC := Lib.hid hC
  have HK := Lib.hid hk
  clear hC hk
  have hB0 : Below w.heap.size w ((w.alloc (.cells #[.slice none 0 0] 108)).alloc (.cells ((arrL xs 0).map (Value.int .u8)).toArray 109)) := ((Below.refl w.heap.size w).alloc (Nat.le_refl _) _).alloc (by simp) _
  have hT0 := (World.alloc_heap_old' (w.alloc (.cells #[.slice none 0 0] 108)) (.cells ((arrL xs 0).map (Value.int .u8)).toArray 109) (i := w.heap.size) (by simp)).trans (World.alloc_heap_new w _)
  have hA0 := World.alloc_heap_new (w.alloc (.cells #[.slice none 0 0] 108)) (.cells ((arrL xs 0).map (Value.int .u8)).toArray 109)
  rw [World.size_alloc] at hA0
  have HB0 := Lib.hid hB0
  have HT0 := Lib.hid hT0
  have HA0 := Lib.hid hA0
  have HZ := Lib.hid (arr_zero xs)
  clear hB0 hT0 hA0
  go_enter Try.func56, Try.ntmps56
  go_wp2
  rw [← HZ.out]
  generalize (w.alloc (.cells #[.slice none 0 0] 108)).alloc (.cells ((arrL xs 0).map (Value.int .u8)).toArray 109) = w0 at *
  go_loopw [9] (fun i W => ∃ k : Nat, i = .int .i64 k ∧ k ≤ xs.length ∧ Aside0 (W.heap[w.heap.size]? = some (.cells #[.slice none 0 0] 108 (0, 0))) ∧ Aside0 (W.heap[w.heap.size + 1]? = some (.cells ((arrL xs k).map (Value.int .u8)).toArray 109 (0, 0))) ∧ Aside0 (Below w.heap.size w W)) (fun i _ => xs.length - (intOf i).toNat)
  case atStart => exact ⟨0, rfl, Nat.zero_le _, Aside0.mk HT0.out, Aside0.mk HA0.out, Aside0.mk HB0.out⟩
  case round =>
    clear HT0 HA0 HB0
    obtain ⟨k, rfl, hk, HT, HA, HB⟩ := hrel
    by_cases hlt : k < xs.length
    · have hlt2 : (k : Int) < (xs.length : Int) := by omega
      obtain ⟨ad, rfl, e1⟩ := Kd.at_int (Kd.C_below HC.out HB.out) (k : Int) (by omega) (by omega)
      rw [Int.toNat_natCast] at e1
      obtain ⟨hx1, hx2⟩ := HK.out (rd xs k) (List.mem_of_getElem? (rd_mem hlt))
      obtain ⟨q, r, hr4, hqr⟩ : ∃ q r : Nat, r < 4 ∧ k = 4 * q + r := ⟨k / 4, k % 4, by omega, by omega⟩
      have HQR := Lib.hid hqr
      have hq1 : (k : Int) / 4 = (q : Int) := by omega
      have hq2 : (k : Int).tdiv 4 = (q : Int) := by rw [Int.tdiv_eq_ediv_of_nonneg (by omega)]; exact hq1
      have hr1 : (k : Int) % 4 = (r : Int) := by omega
      have hr2 : (k : Int).tmod 4 = (r : Int) := by rw [Int.tmod_eq_emod_of_nonneg (by omega)]; exact hr1
      have hq16 : q < 16 := by omega
      have hq0 : (0 : Int) ≤ (q : Int) := by omega
      have hq16i : (q : Int) < 16 := by omega
      obtain ⟨hb0, hb1⟩ := pk_bd xs HK.out (q := q) hr4 (by omega)
      rw [← hqr] at hb0 hb1
      have z := arr_blk HA.out hq16
      have z2 := blk_frozen HA.out q
      have HAs := Lib.hid (fun (W : World) (h : W.heap[w.heap.size + 1]? = some (.cells ((arrL xs (4 * q + r)).map (Value.int .u8)).toArray 109 (0, 0))) => arr_set h hr4 hq16)
      rw [← hqr] at HAs
      have hor := or_pack2 hr4 hb0 hb1 (show 0 ≤ rd xs (k : Int) - 1 by omega) (by omega)
      have HOr := Lib.hid hor
      have hw1 : IntKind.i64.wrap (q : Int) = q := by rw [IntKind.wrap_i64]; omega
      have hw2 : IntKind.i64.wrap (r : Int) = r := by rw [IntKind.wrap_i64]; omega
      have hw3 : IntKind.i64.wrap (rd xs (k : Int) - 1) = rd xs (k : Int) - 1 := by rw [IntKind.wrap_i64]; omega
      have hw4 : IntKind.u8.wrap (rd xs (k : Int) - 1) = rd xs (k : Int) - 1 := by unfold IntKind.wrap; simp [IntKind.bits, IntKind.signed]; omega
      have hw5 : IntKind.i64.wrap (2 * (r : Int)) = 2 * (r : Int) := by rw [IntKind.wrap_i64]; omega
      clear hqr hor hb0 hb1
      generalize pk xs k q = b at *
      generalize rd xs (k : Int) = x at *
      go_wp2
      go_still_tail 13, (by kernel_rfl)
      go_wp2
      clear hw1 hw2 hw3 hw4 hw5 hq1 hq2 hr1 hr2
      go_roundw
      case rel => exact ⟨k + 1, by go_num, by omega, Aside0.mk ((Below.heap_setCell wr ⟨w.heap.size + 1, q, none⟩ _ w.heap.size (by simp)).trans HT.out), Aside0.mk (by rw [HOr.out]; exact HAs.out _ HA.out), Aside0.mk (below_drew (HB.out.setCell (by simp) _))⟩
      case measure => simp [intOf]; omega
    · obtain rfl : k = xs.length := by omega
      have hTp : TapeIs wr w.heap.size w.heap.size (.slice none 0 0) [] := ⟨HT.out, World.ownsRow_nil _ _ _ _⟩
      have HTN := Lib.hid (fun (W : World) (h : Below wr.heap.size wr W) => TNumber_any W w.heap.size w.heap.size xs.length (.slice none 0 0) [] (by omega) ⟨(h.block _ (blk_lt HT.out)).trans HT.out, World.ownsRow_nil _ _ _ _⟩ (Nat.le_trans HB.out.size h.size) (by simp))
      have hm : ((xs.length : Int) + 4 - 1) / 4 = (((xs.length + 3) / 4 : Nat) : Int) := by omega
      have hm2 : ((xs.length : Int) + 4 - 1).tdiv 4 = (((xs.length + 3) / 4 : Nat) : Int) := by rw [Int.tdiv_eq_ediv_of_nonneg (by omega)]; exact hm
      obtain ⟨m, hmm⟩ : ∃ m, (xs.length + 3) / 4 = m := ⟨_, rfl⟩
      rw [hmm] at hm hm2
      have hm16 : m ≤ 16 := by omega
      have hm16i : (m : Int) ≤ 16 := by omega
      have hm0 : (0 : Int) ≤ (m : Int) := by omega
      have hw1 : IntKind.i64.wrap ((xs.length : Int) + 4) = (xs.length : Int) + 4 := by rw [IntKind.wrap_i64]; omega
      have hw2 : IntKind.i64.wrap ((xs.length : Int) + 4 - 1) = (xs.length : Int) + 4 - 1 := by rw [IntKind.wrap_i64]; omega
      have hw3 : IntKind.i64.wrap (m : Int) = m := by rw [IntKind.wrap_i64]; omega
      have hw4 : IntKind.u64.wrap (xs.length : Int) = xs.length := by unfold IntKind.wrap; simp [IntKind.bits, IntKind.signed]; omega
      clear hTp
      go_wp2
      have hel : (encI xs.length).length ≤ 9 := by rw [encI_length]; exact (VP.wid_pos _).2
      have HEL := Lib.hid hel
      clear hel
      go_region_held3 (fun _ => True) (trivial) ((first | (go_at_call 65; (with_reducible refine (HTN.out _ (by repeat (first | exact Below.refl _ _ | apply below_drew | apply below_alloc))).mono ?_); rintro e w3 ⟨rfl, ⟨v3, hT3, hv3⟩, hF3⟩; have HT3 := Lib.hid hT3; have hf := fr_from hF3 (W := wr) (by repeat (first | exact Below.refl _ _ | apply below_drew | apply below_alloc)); have HA3 := Lib.hid ((hf.block (w.heap.size + 1) (blk_lt HA.out) (by simp [Value.ownBlock])).trans HA.out); have HB3 := Lib.hid (HB.out.trans (hf.below HB.out.size (fun i hi hS => by simp [Value.ownBlock] at hS; omega))); clear hT3 hv3 hF3 hf) | (go_at_call 66; (with_reducible refine (TAll_any _ w.heap.size w.heap.size v3 _ HT3.out (by have := HEL.out; simp; omega)).mono ?_); rintro e w4 ⟨u, rfl, hu, hb⟩; have HU := Lib.hid (own_less hu HB3.out.size); have HA4 := Lib.hid ((hb.block (w.heap.size + 1) (blk_lt HA3.out)).trans HA3.out); have HB4 := Lib.hid (below_then HB3.out HB3.out.size hb); clear hu hb) | (refine Kd.R_append_rows_step (Kd.int .u8) (w0 := w) (Rr := fun x cs => cs = [Value.int .u8 x]) w.heap.size rfl (.tmp 32) (.tmp 38) 23 5 (.int .u8 0) 1 rfl Try.underlying23 info5 rfl (by decide) (by omega) u (encI xs.length) ((arrL xs xs.length).take m) (some ⟨w.heap.size + 1, 0, none⟩) m 16 (fun _ => True) (fun _ => False) rfl rfl (Kd.R_of_own HU.out (fun _ _ => trivial)) (arr_C HA4.out hm16) (fun _ _ h => h) (fun _ h => h.elim) (fun _ _ => trivial) HB4.out HB4.out.size (by have := HEL.out; omega) ?_; intro v5 w5 hR5 hB5 _ _; have HR5 := Lib.hid hR5; have HB5 := Lib.hid hB5; clear hR5 hB5)))
      go_wp2
      go_ret
      exact ⟨_, rfl, by unfold packL bytesL; rw [hmm]; exact Kd.own_of_R HR5.out, HB5.out⟩
end Go.Proofs.Ytacmajlbaenjfaa

/- A range over a function whose iterator says, of what it hands on, how that hangs on what came before: a law of this seat's own. -/
namespace Go.Proofs.Ytacmajlbaenjfaa
open Go.RowKit

/-- An iterator's contract: Adm pre x: x may come behind pre. -/
def SeqAdm {α : Type} (F : Fence) (n : Nat) (P : Program) (g : Nat) (lb : Array Value) (encs : α → Array Value) (Adm : List α → α → Prop) (Kp : World → World → Prop) (S Sp : List α → Prop) (w : World) : Prop :=
  ∀ (l : Nat) (J Jx : List α → World → Prop) (W : World), Below w.heap.size w W → AbidesFrom W.heap.size J → AbidesFrom W.heap.size Jx →
    (∀ pre x W1, J pre W1 → Adm pre x → YieldAt F (n - 1) P l (encs x) W1 fun e W' =>
      (e = .returned (.bool true) ∧ J (pre ++ [x]) W' ∧ Kp W1 W') ∨ (e = .returned (.bool false) ∧ Jx (pre ++ [x]) W')) →
    J [] W →
    CallsIn F n P g (#[.func (.yield l) #[] #[]] ++ lb) W fun e W' => (∃ v, e = .returned v) ∧ ((∃ xs, S xs ∧ J xs W') ∨ (∃ pre, Sp pre ∧ Jx pre W'))

section
variable {F : Fence} {n : Nat} {P : Program}

/-- The book-keeping of a loop: its record at l, the deferred calls of its rounds at D. -/
structure Book (W : World) (l D : Nat) (r : Loop) : Prop where
  rec_ : W.heap[l]? = some (.loop r)
  defs : W.heap[D]? = some (.deferred (some []))

theorem Book.walk {W W' : World} {l D : Nat} {r : Loop} {row : Option Nat} {B : Nat} (h : Book W l D r) (hg : W.grownBy W' row) (hr : ∀ k, row = some k → B ≤ k ∧ ∃ o : Obj, W.heap[k]? = some o ∧ o.isWalk = true) : Book W' l D r :=
  ⟨(grownBy_keeps hg (fun k e => (hr k e).2) h.rec_ rfl).trans h.rec_, (grownBy_keeps hg (fun k e => (hr k e).2) h.defs rfl).trans h.defs⟩

theorem Book.keep {W W' : World} {l D B : Nat} {r : Loop} (h : Book W l D r) (hk : KeepsFrom B W W') (hl : B ≤ l) (hD : B ≤ D) : Book W' l D r :=
  ⟨hk.same _ _ hl h.rec_ rfl, hk.same _ _ hD h.defs rfl⟩

theorem Book.put {W : World} {l D : Nat} {r : Loop} (h : Book W l D r) (hne : l ≠ D) (r' : Loop) : Book (W.putObj l (.loop r')) l D r' :=
  ⟨World.putObj_heap_same (Array.getElem?_eq_some_iff.1 h.rec_).1, (World.putObj_heap_other (by omega)).trans h.defs⟩

theorem range_adm {α : Type} {g : Operand} {ps : Array Tmp} {assign body : Code} {Q : Exit → Act → World → Prop} {a : Act} {w : World}
    (hro : F.round = none) (h1 : 1 ≤ n) {gf : Nat} {lb : Array Value} (hg : a.eval g = .func (.func gf) #[] lb) (hFg : F.fn gf) (eg : ∀ args w, (callFunc gf args).run P w = .ok (.enter gf args) w)
    {encs : α → Array Value} {Adm : List α → α → Prop} {Kp : World → World → Prop} {S Sp : List α → Prop} (hseq : SeqAdm F (n - 1) P gf lb encs Adm Kp S Sp w)
    (hKt : ∀ {A B C : World}, Kp A B → Kp B C → Kp A C) (hKb : ∀ (W : World) (l : Nat) (o o' : Obj), w.heap.size ≤ l → W.heap[l]? = some o → o.isCells = false → o.isWalk = false → Kp W (W.putObj l o')) (hps : ∀ x, (encs x).size = ps.size)
    (I : List α → World → Prop) (Ix : Code → List α → World → Prop) (hI : OwnFrom w.heap.size I) (hIx : ∀ c, OwnFrom w.heap.size (Ix c)) (h0 : I [] w) (Ax : α → Act → World → Prop) (hAx : ∀ x a', OwnFrom w.heap.size (fun (_ : Unit) W => Ax x a' W))
    (hassign : ∀ (l : Nat) (pre : List α) (x : α) (W : World) (K : Act → World → Prop), I pre W → Adm pre x → (∀ a' W', KeepsFrom w.heap.size W W' → Kp W W' → I pre W' → Ax x a' W' → K a' W') →
      assign.wpIn (F.inRound l) (n - 1 - 1) P (Exit.then K (fun _ _ _ => False)) { tmps := (ps.zip (encs x)).foldl (fun t (p, v) => t.setIfInBounds p v) a.tmps, defers := [] } W)
    (hbody : ∀ (l : Nat) (pre : List α) (x : α) (a' : Act) (W : World), w.heap.size ≤ l → (∃ r, W.heap[l]? = some (.loop r)) → I pre W → Adm pre x → Ax x a' W → body.wpIn (F.inRound l) (n - 1 - 1) P (ownPostG w.heap.size Kp I Ix (pre ++ [x]) W) a' W)
    (hdone : ∀ (D : Nat) (xs : List α) (W : World), w.heap.size ≤ D → S xs → I xs W → W.heap[D]? = some (.deferred (some [])) → Q .normal { a with defers := { target := .collected D, args := #[] } :: a.defers } W)
    (hstop : ∀ (D : Nat) (c : Code) (pre : List α) (W : World), w.heap.size ≤ D → Sp pre → Ix c pre W → W.heap[D]? = some (.deferred (some [])) → c.wpIn F n P Q { a with defers := { target := .collected D, args := #[] } :: a.defers } W) :
    (Code.rangeFunc g ps assign body).wpIn F n P Q a w := by
  refine wpIn_rangeFunc ?_
  intro fn hfn
  rw [hro]
  obtain ⟨rec, hrec⟩ : ∃ rec : LoopState → Option Code → Loop, rec = fun st pe => { state := st, pending := pe, fn, tmps := a.tmps, params := ps, assign, body, defers := w.heap.size } := ⟨_, rfl⟩
  obtain ⟨L, hL⟩ : ∃ L, L = w.heap.size + 1 := ⟨_, rfl⟩
  have hLD : L ≠ w.heap.size := by omega
  obtain ⟨W1, hW1⟩ : ∃ W1, (w.alloc (.deferred (some []))).alloc (.loop (rec .ready none)) = W1 := ⟨_, rfl⟩
  have hbk : Book W1 L w.heap.size (rec .ready none) := by
    refine ⟨?_, ?_⟩
    · have := World.alloc_heap_new (w.alloc (.deferred (some []))) (.loop (rec .ready none))
      rwa [World.size_alloc, hW1, ← hL] at this
    · rw [← hW1]; exact (Below.heap_alloc _ _ _ (by simp)).trans (World.alloc_heap_new w _)
  have hsz1 : W1.heap.size = w.heap.size + 2 := by rw [← hW1]; simp
  have hI1 : I [] W1 := by rw [← hW1]; exact hI.alloc _ (hI.alloc _ h0)
  have hb1 : Below w.heap.size w W1 := by rw [← hW1]; exact ((Below.refl _ w).alloc (Nat.le_refl _) _).alloc (by simp) _
  refine ⟨L, [{ target := .collected w.heap.size, args := #[] }], W1, { target := .fn (.func gf) lb, args := #[.func (.yield L) #[] #[]] }, W1, gf, #[.func (.yield L) #[] #[]] ++ lb, W1, ?_, ?_, ?_, ?_, fun _ => h1, ?_⟩
  · rw [← hW1, hrec, hL]; exact run_enterLoop_outer _ _ _ _ _
  · simp only [resolve, hg]
    simp [go_sem]
  · intro f' hf'; simp [Target.leads] at hf'; subst hf'; exact hFg
  · simp [invoke, go_sem, eg]
  · have far : ∀ {A : World} {row : Option Nat}, (∀ r, row = some r → W1.heap.size ≤ r ∧ ∃ o : Obj, A.heap[r]? = some o ∧ o.isWalk = true) → (∀ r, row = some r → w.heap.size ≤ r ∧ ∃ o : Obj, A.heap[r]? = some o ∧ o.isCells = false) :=
      fun hr r e => by obtain ⟨hB, o, ho, hw⟩ := hr r e; exact ⟨by omega, o, ho, Obj.not_cells_of_walk hw⟩
    refine (hseq L (fun pre W => I pre W ∧ Book W L w.heap.size (rec .ready none)) (fun pre W => ∃ c, Ix c pre W ∧ Book W L w.heap.size (rec .done (some c))) W1 hb1
      (fun s A B row hs hg' hr => ⟨hI s A B row hs.1 hg' (far hr), hs.2.walk hg' hr⟩)
      (fun s A B row ⟨c, hc, hb⟩ hg' hr => ⟨c, hIx c s A B row hc hg' (far hr), hb.walk hg' hr⟩) ?_ ⟨hI1, hbk⟩).mono ?_
    · rintro pre x W ⟨hi, hb⟩ hadm
      have hy := run_yield (P := P) (args := encs x) hb.rec_ (by rw [hrec]; exact hps x)
      rw [hrec] at hy
      refine ⟨fn, _, assign, body, hy, roundIn_of_wpIn hfn (hassign L pre x W _ hi hadm ?_)⟩
      intro a' V hkf hkp hia hax
      have hbV := hb.keep hkf (by omega) (Nat.le_refl _)
      refine ⟨_, run_beginRound hbV.rec_ (by rw [hrec]), ?_⟩
      have hbU := hbV.put hLD { rec .ready none with state := .busy }
      have hkU : Kp V (V.putObj L (.loop { rec .ready none with state := .busy })) := hKb _ _ _ _ (by omega) hbV.rec_ rfl rfl
      refine wpIn_mono (hbody L pre x a' _ (by omega) ⟨_, hbU.rec_⟩ (hI.putObj _ hia (by omega) hbV.rec_ rfl) hadm ((hAx x a').putObj (s := ()) _ hax (by omega) hbV.rec_ rfl)) ?_
      have fin : ∀ (jump : Option Code) (W3 : World), KeepsFrom w.heap.size (V.putObj L (.loop { rec .ready none with state := .busy })) W3 →
          (Instr.endRound L jump).run P W3 = .ok (.bool jump.isNone) (W3.putObj L (.loop (rec (if jump.isNone then .ready else .done) jump))) ∧ Book W3 L w.heap.size { rec .ready none with state := .busy } ∧
          Book (W3.putObj L (.loop (rec (if jump.isNone then .ready else .done) jump))) L w.heap.size (rec (if jump.isNone then .ready else .done) jump) := fun jump W3 hk3 => by
        have hb3 := hbU.keep hk3 (by omega) (Nat.le_refl _)
        have hr := run_endRound (P := P) jump hb3.rec_
        refine ⟨?_, hb3, hb3.put hLD _⟩
        rw [hrec] at hr ⊢
        exact hr
      rintro e a3 W3 hp
      have stop : ∀ c : Code, KeepsFrom w.heap.size (V.putObj L (.loop { rec .ready none with state := .busy })) W3 → Ix c (pre ++ [x]) W3 → ∃ c', Ix c' (pre ++ [x]) (W3.putObj L (.loop (rec (if (some c).isNone then .ready else .done) (some c)))) ∧ Book (W3.putObj L (.loop (rec (if (some c).isNone then .ready else .done) (some c)))) L w.heap.size (rec .done (some c')) := fun c hk3 hi3 => by
        obtain ⟨_, hb3, hb4⟩ := fin (some c) W3 hk3
        exact ⟨c, (hIx _).putObj _ hi3 (by omega) hb3.rec_ rfl, hb4⟩
      cases e with
      | normal =>
        obtain ⟨hk3, hkp3, hi3⟩ := hp
        obtain ⟨hr, hb3, hb4⟩ := fin none W3 hk3
        exact ⟨_, _, hr, .inl ⟨rfl, ⟨hI.putObj _ hi3 (by omega) hb3.rec_ rfl, hb4⟩, hKt hkp (hKt (hKt hkU hkp3) (hKb _ _ _ _ (by omega) hb3.rec_ rfl rfl))⟩⟩
      | ret => exact ⟨_, _, (fin (some .ret) W3 hp.1).1, .inr ⟨rfl, stop .ret hp.1 hp.2⟩⟩
      | exit id => exact ⟨_, _, (fin (some (.exit id)) W3 hp.1).1, .inr ⟨rfl, stop (.exit id) hp.1 hp.2⟩⟩
      | goto t => exact ⟨_, _, (fin (some (.goto t)) W3 hp.1).1, .inr ⟨rfl, stop (.goto t) hp.1 hp.2⟩⟩
      | panic ch => exact hp.elim
      | outgrown => exact hp.elim
    · rintro e W2 ⟨⟨v, rfl⟩, (⟨xs, hS, hi, hb⟩ | ⟨pre, hSp, c, hi, hb⟩)⟩
      · have hr := run_endLoop (P := P) hb.rec_ (by rw [hrec]; simp)
        refine ⟨none, _, by rw [hrec] at hr; exact hr, ?_⟩
        exact hdone _ xs _ (Nat.le_refl _) hS (hI.putObj _ hi (by omega) hb.rec_ rfl) ((World.putObj_heap_other (by omega)).trans hb.defs)
      · have hr := run_endLoop (P := P) hb.rec_ (by rw [hrec]; simp)
        refine ⟨some c, _, by rw [hrec] at hr; exact hr, ?_⟩
        exact hstop _ c pre _ (Nat.le_refl _) hSp ((hIx c).putObj _ hi (by omega) hb.rec_ rfl) ((World.putObj_heap_other (by omega)).trans hb.defs)
end
end Go.Proofs.Ytacmajlbaenjfaa

/- unpacked: the types in bytes, one by one. -/
namespace Go.Proofs.Ytacmajlbaenjfaa
open Go.RowKit Go.Shelf Go.Proofs.YtacmajlbaenjfaaW.PrintWords Go.Proofs.YtacmajlbaenjfaaW.PrintLast Go.Proofs.YtacmajlbaenjfaaW.PrintMore
attribute [local go_sem] Oper.semAt_some
attribute [local go_sem] wide_fn wide_depth

/-- Type i in bytes; whether it may be there. -/
def tyAt (bs : List Int) (i : Nat) : Int := rd bs ((i / 4 : Nat) : Int) / 2 ^ (2 * (i % 4)) % 4 + 1
def tyOk (bs : List Int) (many : Int) (i : Nat) : Bool := decide ((i : Int) < many) || (tyAt bs i == 1)
theorem and_fin : ∀ b : Fin 256, Go.bits .and .u8 (b.val : Int) 3 = (b.val : Int) % 4 := by decide +kernel
theorem and_3 {b : Int} (h0 : 0 ≤ b) (h1 : b ≤ 255) : Go.bits .and .u8 b 3 = b % 4 := by
  obtain ⟨n, rfl⟩ := Int.eq_ofNat_of_zero_le h0
  exact and_fin ⟨n, by omega⟩
theorem tyAt_bd (bs : List Int) (i : Nat) : 1 ≤ tyAt bs i ∧ tyAt bs i ≤ 4 := by unfold tyAt; omega
theorem div_byte {b : Int} (k : Nat) (h0 : 0 ≤ b) (h1 : b ≤ 255) : 0 ≤ b / 2 ^ k ∧ b / 2 ^ k ≤ 255 := by
  have hp : (0 : Int) < 2 ^ k := Int.pow_pos (by omega)
  exact ⟨Int.ediv_nonneg h0 (by omega), Int.le_trans (Int.ediv_le_self _ h0) h1⟩
def KpU (a b : Nat) (u : Value) (W W' : World) : Prop := W'.heap[a]? = W.heap[a]? ∧ W'.heap[b]? = W.heap[b]? ∧ ∀ c, u.ownBlock = some c → W'.heap[c]? = W.heap[c]?

set_option maxRecDepth 100000 in
set_option maxHeartbeats 1000000 in
theorem unp_in (m : Nat) (l bb bm base : Nat) (many : Int) (A : Option Addr) (n c : Nat) (bs : List Int) (hl : bs.length ≤ 1000) (hby : ∀ b ∈ bs, 0 ≤ b ∧ b ≤ 255) (J Jx : List Nat → World → Prop)
    (hY : ∀ pre x W, J pre W → (x = pre.length ∧ x < 4 * bs.length) → YieldAt Fence.wide (m - 1) Try.prog l #[.int .i64 (tyAt bs x), .bool (tyOk bs many x)] W fun e W' =>
      (e = .returned (.bool true) ∧ J (pre ++ [x]) W' ∧ KpU bb bm (.slice A n c) W W') ∨ (e = .returned (.bool false) ∧ Jx (pre ++ [x]) W'))
    (W : World) (h1 : W.heap[bb]? = some (.cells #[.slice A n c] 23 (0, 0))) (h2 : W.heap[bm]? = some (.cells #[.int .i64 many] 3 (0, 0))) (h3 : W.ownsRow base 5 1 (.slice A n c) bs.length (nums .u8 bs)) (h0 : J [] W) :
    CallsIn Fence.wide m Try.prog 91 #[.func (.yield l) #[] #[], .pointer (some ⟨bb, 0, none⟩), .pointer (some ⟨bm, 0, none⟩)] W fun e W' => (∃ v, e = .returned v) ∧
      ((∃ ys, ys = List.range (4 * bs.length) ∧ J ys W') ∨ (∃ pre, True ∧ Jx pre W')) := by
  have hc1 := blk_cell h1 0
  simp only [List.getElem?_toArray, List.getElem?_cons_zero] at hc1
  obtain ⟨hn, _, _⟩ := row_C h3
  subst hn
  refine callsIn_of_wp Try.func91 rfl trivial ?_ rfl
  simp only [Try.ntmps91, List.size_toArray, List.length_cons, List.length_nil, Nat.reduceAdd, Nat.reduceSub, Array.replicate_succ, Array.replicate_zero, List.push_toArray, List.append_toArray, List.nil_append, List.cons_append]
  gi_wp2
  gi_loopw [9] (fun p wr => ∃ (k : Nat), k ≤ 4 * bs.length ∧ p = .int .i64 k ∧ J (List.range k) wr ∧ wr.heap[bb]? = some (.cells #[.slice A bs.length c] 23 (0, 0)) ∧ wr.heap[bm]? = some (.cells #[.int .i64 many] 3 (0, 0)) ∧ Aside0 (wr.ownsRow base 5 1 (.slice A bs.length c) bs.length (nums .u8 bs)))
    (fun p _ => 4 * bs.length - (intOf p).toNat)
  case atStart => exact ⟨0, by omega, rfl, h0, h1, h2, Aside0.mk h3⟩
  case round =>
    clear hc1 h0 h1 h2 h3
    obtain ⟨k, hk, rfl, hJk, h1, h2, HO⟩ := hrel
    by_cases hlt : k < 4 * bs.length
    · have hlt2 : (k : Int) < 4 * (bs.length : Int) := by omega
      have d0 := blk_cell h1 0
      have d1 := blk_cell h2 0
      simp only [List.getElem?_toArray, List.getElem?_cons_zero] at d0 d1
      obtain ⟨_, hcc, hC⟩ := row_C HO.out
      obtain ⟨ad, rfl, e1⟩ := Kd.at_int hC ((k / 4 : Nat) : Int) (by omega) (by omega)
      rw [Int.toNat_natCast] at e1
      obtain ⟨fn, tmps, assign, body, hy, hR⟩ := hY (List.range k) k wr hJk ⟨by simp, hlt⟩
      rw [← List.range_succ] at hR
      simp only [tyOk] at hy hR
      obtain ⟨hx0, hx1⟩ := hby (rd bs ((k / 4 : Nat) : Int)) (List.mem_of_getElem? (rd_mem (by omega)))
      have e4 : ((k / 4 : Nat) : Int) = (k : Int) / 4 := by omega
      obtain ⟨hd0, hd1⟩ := div_byte (2 * (k % 4)) hx0 hx1
      have ha : Go.bits .and .u8 (rd bs ((k : Int) / 4) / 2 ^ (2 * (k % 4))) 3 = tyAt bs k - 1 := by rw [← e4, and_3 hd0 hd1]; unfold tyAt; omega
      obtain ⟨hy1, hy2⟩ := tyAt_bd bs k
      rw [e4] at e1
      generalize tyAt bs k = y at *
      have hw1 : wrap64 (y - 1) = y - 1 := by unfold wrap64; omega
      have hw2 : wrap64 y = y := by unfold wrap64; omega
      clear hd0 hd1 hx0 hx1 hC
      by_cases hm : (k : Int) < many
      · simp only [hm, decide_true, Bool.true_or] at hy
        gi_wp2
        refine hR.mono ?_
        rintro e W3 (⟨rfl, hJ3, hk3⟩ | ⟨rfl, hJx3⟩)
        · have H1 := Lib.hid (hk3.1.trans h1)
          have H2 := Lib.hid (hk3.2.1.trans h2)
          have H3 := Lib.hid (own_move HO.out hk3.2.2)
          clear hk3 ha hw1 hw2
          gi_wp2
          go_roundw
          case rel => exact ⟨k + 1, by omega, by go_num, hJ3, H1.out, H2.out, Aside0.mk H3.out⟩
          case measure => simp [intOf]; omega
        · gi_wp2
          refine bodyPost_ret (results_none rfl _ _ _) rfl ?_
          exact ⟨⟨_, rfl⟩, .inr ⟨_, trivial, hJx3⟩⟩
      · simp only [hm, decide_false, Bool.false_or] at hy
        gi_wp2
        refine hR.mono ?_
        rintro e W3 (⟨rfl, hJ3, hk3⟩ | ⟨rfl, hJx3⟩)
        · have H1 := Lib.hid (hk3.1.trans h1)
          have H2 := Lib.hid (hk3.2.1.trans h2)
          have H3 := Lib.hid (own_move HO.out hk3.2.2)
          clear hk3 ha hw1 hw2
          gi_wp2
          go_roundw
          case rel => exact ⟨k + 1, by omega, by go_num, hJ3, H1.out, H2.out, Aside0.mk H3.out⟩
          case measure => simp [intOf]; omega
        · gi_wp2
          refine bodyPost_ret (results_none rfl _ _ _) rfl ?_
          exact ⟨⟨_, rfl⟩, .inr ⟨_, trivial, hJx3⟩⟩
    · obtain rfl : k = 4 * bs.length := by omega
      have hlt2 : ¬ ((4 * bs.length : Nat) : Int) < 4 * (bs.length : Int) := by omega
      gi_wp2
      go_end0
      exact ⟨⟨_, rfl⟩, .inl hJk⟩
end Go.Proofs.Ytacmajlbaenjfaa

/- types: types read, at most so many: plain part; the iterator's making. -/
namespace Go.Proofs.Ytacmajlbaenjfaa
open Go.RowKit Go.Shelf Go.Proofs.YtacmajlbaenjfaaW.PrintWords Go.Proofs.YtacmajlbaenjfaaW.PrintLast Go.Proofs.YtacmajlbaenjfaaW.PrintMore
attribute [local go_sem] Oper.semAt_some
attribute [local go_sem] wide_fn wide_depth

/-- The types that bytes hold, where nothing is behind the last one. -/
def tysB (B : List Int) (many : Int) : Bool := (List.range (4 * B.length)).all (tyOk B many)
def tys (B : List Int) : List Int := (List.range (4 * B.length)).map (tyAt B)
/-- Types read: whether it went well; the types; how far the place is moved. -/
def typesR (bs : List Int) (p : Nat) (most : Int) : Bool × List Int × Nat :=
  if (readN (rest bs p) most).2.1 = 0 then
    (if (readR bs (p + (readN (rest bs p) most).2.2) (((readN (rest bs p) most).1 + 3) / 4 : Nat)).2.1 = 0 ∧ tysB (readR bs (p + (readN (rest bs p) most).2.2) (((readN (rest bs p) most).1 + 3) / 4 : Nat)).1 (readN (rest bs p) most).1
     then (true, (tys (readR bs (p + (readN (rest bs p) most).2.2) (((readN (rest bs p) most).1 + 3) / 4 : Nat)).1).take (readN (rest bs p) most).1, (readN (rest bs p) most).2.2 + (readR bs (p + (readN (rest bs p) most).2.2) (((readN (rest bs p) most).1 + 3) / 4 : Nat)).2.2)
     else (false, [], (readN (rest bs p) most).2.2 + (readR bs (p + (readN (rest bs p) most).2.2) (((readN (rest bs p) most).1 + 3) / 4 : Nat)).2.2))
  else (false, [], (readN (rest bs p) most).2.2)

theorem readN_most {l : List Nat} {most : Int} (h : (readN l most).2.1 = 0) : ((readN l most).1 : Int) ≤ most := by
  unfold readN at h ⊢
  by_cases h1 : (look l).2.2 = 0
  · rw [if_pos h1] at h ⊢
    by_cases h2 : most < (look l).1
    · rw [if_pos h2] at h; simp at h
    · rw [if_neg h2]; simpa using h2
  · rw [if_neg h1] at h; simp at h; omega
theorem readR_len {bs : List Int} {p n : Nat} (h : (readR bs p n).2.1 = 0) : (readR bs p n).1.length = n := by
  unfold readR at h ⊢
  by_cases h1 : (n : Int) < 0
  · omega
  · rw [if_neg h1] at h ⊢
    by_cases h2 : (bs.length : Int) - p < n
    · rw [if_pos h2] at h; simp at h
    · rw [if_neg h2]; simp; omega
theorem readR_err {bs : List Int} {p n : Nat} (h : ¬ (readR bs p n).2.1 = 0) : (readR bs p n).1 = [] := by
  unfold readR at h ⊢
  by_cases h1 : (n : Int) < 0
  · omega
  · rw [if_neg h1] at h ⊢
    by_cases h2 : (bs.length : Int) - p < n
    · rw [if_pos h2]
    · rw [if_neg h2] at h; simp at h
theorem readR_mem {bs : List Int} {p n : Nat} {b : Int} (h : b ∈ (readR bs p n).1) : b ∈ bs := by
  unfold readR at h
  split at h
  · simp at h
  · split at h
    · simp at h
    · exact List.mem_of_mem_take (List.mem_of_mem_drop h)
theorem readR_le {bs : List Int} {p n : Nat} : (readR bs p n).1.length ≤ n := by
  by_cases h : (readR bs p n).2.1 = 0
  · rw [readR_len h]; omega
  · rw [readR_err h]; simp

theorem unpacked_any (w : World) (A : Option Addr) (n c : Nat) (many : Int) :
    Calls Try.prog 70 #[.slice A n c, .int .i64 many] w fun e w' => e = .returned (.func (.func 91) #[] #[.pointer (some ⟨w.heap.size, 0, none⟩), .pointer (some ⟨w.heap.size + 1, 0, none⟩)]) ∧ w' = (w.alloc (.cells #[.slice A n c] 23)).alloc (.cells #[.int .i64 many] 3) := by
  go_enter Try.func70, Try.ntmps70
  go_wp2
  go_ret
  exact ⟨rfl, rfl⟩
end Go.Proofs.Ytacmajlbaenjfaa

/- types. -/
namespace Go.Proofs.Ytacmajlbaenjfaa
open Go.RowKit Go.Shelf Go.Proofs.YtacmajlbaenjfaaW.PrintWords Go.Proofs.YtacmajlbaenjfaaW.PrintLast Go.Proofs.YtacmajlbaenjfaaW.PrintMore
attribute [local go_sem] Oper.semAt_some
attribute [local go_sem] wide_fn wide_depth

theorem alloc_at (W : World) (o : Obj) {i : Nat} (h : i = W.heap.size) : (W.alloc o).heap[i]? = some o := by subst h; exact World.alloc_heap_new W o

theorem info3 : (Try.prog.info? 3).map (fun i => (i.zero, i.size, i.bytes)) = some (some (.int .i64 0), 1, 8) := by kernel_rfl
theorem cell_one_at (W : World) (v : Value) (t : TypeId) {i : Nat} (h : i = W.heap.size) : ∀ j u, [v][j]? = some u → (W.alloc (.cells #[v] t)).cell? ((⟨i, 0, none⟩ : Addr).add j) = some u := by subst h; exact cell_one_new _ _ _
theorem nums_snoc (k : IntKind) (xs : List Int) (x : Int) : nums k (xs ++ [x]) = nums k xs ++ [.int k x] := by simp [nums]
theorem nums_take (k : IntKind) (xs : List Int) (n : Nat) : (nums k xs).take n = nums k (xs.take n) := by simp [nums, List.map_take]
theorem nums_len (k : IntKind) (xs : List Int) : (nums k xs).length = xs.length := by simp [nums]

/-- A round's end: a type more. -/
theorem types_step {W0 W w2 : World} {ob t n c : Nat} {A : Option Addr} {o o2 : Value} {pre : List Nat} {B : List Int} {x : Nat} {b2 : Bool}
    (hub : ∀ b, (Value.slice A n c).ownBlock = some b → b < ob) (hsz : W0.heap.size = ob + 4)
    (ho : W.heap[ob]? = some (.cells #[o] t (0, 0))) (hrow : W.ownsRow (ob + 4) 3 1 o pre.length (nums .i64 (pre.map (tyAt B)))) (hb : Boxed W (ob + 1) 4 (.bool b2))
    (hF : Fr (fun i => i = ob ∨ i = ob + 1) W0 W)
    (hown : w2.ownsRow (ob + 4) 3 1 o2 (pre.length + 1) (nums .i64 (pre.map (tyAt B)) ++ [.int .i64 (tyAt B x)]))
    (hgrow : (W.alloc (.cells #[.int .i64 (tyAt B x)] 3)).grownBy w2 o.ownBlock) (ht : t ≠ 3) :
    w2.cell? ⟨ob, 0, none⟩ = some o ∧ w2.frozen? ⟨ob, 0, none⟩ = false ∧ KeepsFrom (ob + 4) W (w2.setCell ⟨ob, 0, none⟩ o2) ∧ KpU (ob + 2) (ob + 3) (.slice A n c) W (w2.setCell ⟨ob, 0, none⟩ o2) ∧
    (∃ o', (w2.setCell ⟨ob, 0, none⟩ o2).heap[ob]? = some (.cells #[o'] t (0, 0)) ∧ (w2.setCell ⟨ob, 0, none⟩ o2).ownsRow (ob + 4) 3 1 o' (pre ++ [x]).length (nums .i64 ((pre ++ [x]).map (tyAt B)))) ∧
    Boxed (w2.setCell ⟨ob, 0, none⟩ o2) (ob + 1) 4 (.bool b2) ∧ Fr (fun i => i = ob ∨ i = ob + 1) W0 (w2.setCell ⟨ob, 0, none⟩ o2) := by
  have hlo : ∀ k, o.ownBlock = some k → ob + 4 ≤ k := fun k hk => own_base hrow k hk
  have hW : ob + 4 ≤ W.heap.size := hsz ▸ hF.size
  have hA : Below W.heap.size W (W.alloc (.cells #[.int .i64 (tyAt B x)] 3)) := below_alloc (Below.refl _ _) _
  have hg : ∀ i, i < ob + 4 → w2.heap[i]? = W.heap[i]? := fun i hi => (hgrow.block i (by have := hA.size; omega) (fun e => by have := hlo i e.symm; omega)).trans (hA.block i (by omega))
  have hob : w2.heap[ob]? = some (.cells #[o] t (0, 0)) := (hg ob (by omega)).trans ho
  have hb1 : Boxed w2 (ob + 1) 4 (.bool b2) := (hg (ob + 1) (by omega)).trans hb
  have hsz2 : W.heap.size ≤ w2.heap.size := Nat.le_trans hA.size hgrow.size
  have hset : ∀ i, i ≠ ob → (w2.setCell ⟨ob, 0, none⟩ o2).heap[i]? = w2.heap[i]? := fun i hi => Below.heap_setCell w2 ⟨ob, 0, none⟩ o2 i hi
  have hne : some ob ≠ o2.ownBlock := own_ne hown hob (Ne.symm ht)
  refine ⟨blk_cell hob 0, blk_frozen hob 0, ⟨by simpa using hsz2, fun k o' hk hk2 hc => ?_⟩, ⟨?_, ?_, fun b hb' => ?_⟩, ⟨o2, ?_, ?_⟩, ?_, ?_⟩
  · rw [hset k (by omega)]
    have hkl := blk_lt hk2
    rw [hgrow.block k (by have := hA.size; omega) ?_, hA.block k hkl]
    · exact hk2
    · intro e
      rcases hrow.2 with ⟨rfl, _⟩ | ⟨g', c', cur, rfl, _, hgb, _⟩
      · simp [Value.ownBlock] at e
      · obtain rfl : k = g' := by simpa [Value.ownBlock] using e
        rw [hgb] at hk2; cases hk2; cases hc
  · rw [hset _ (by omega), hg _ (by omega)]
  · rw [hset _ (by omega), hg _ (by omega)]
  · have := hub b hb'
    rw [hset _ (by omega), hg _ (by omega)]
  · have := blk_set hob 0 o2
    simpa using this
  · refine own_setCell ?_ hne _
    rw [List.map_append, List.length_append]
    show w2.ownsRow (ob + 4) 3 1 o2 (pre.length + 1) (nums .i64 (pre.map (tyAt B) ++ [tyAt B x]))
    rw [nums_snoc]
    exact hown
  · exact (hset _ (by omega)).trans hb1
  · refine (hF.trans (T := fun i => o.ownBlock = some i) (Fr.grown (S := fun i => o.ownBlock = some i) (w := W) (W := w2) (row := o.ownBlock) ?_ (fun i _ e => e)) (fun i hi e => ?_)).set _ _ (fun _ => .inl rfl)
    · exact ⟨hgrow.os.trans hA.os, hgrow.tape.trans hA.tape, hgrow.output.trans hA.output, hsz2, fun i hi hn => (hgrow.block i (by have := hA.size; omega) hn).trans (hA.block i hi)⟩
    · have := hlo i e; omega

theorem types_fin {w W0 W : World} {g base p q ob D : Nat} {v : Value} {bs : List Int} (XF : Fr (fun i => i = g) w W0) (XR : ReelIs W0 g base v bs p) (h4 : Fr (fun i => i = ob ∨ i = ob + 1) W0 W) (hg : g < ob)
    (hvb : ∀ b, v.ownBlock = some b → b < ob) (hsz : W0.heap.size = ob + 4) (hle : w.heap.size ≤ ob) (hD : W0.heap.size ≤ D) (hpq : p = q) (o : Obj) :
    ReelIs (W.putObj D o) g base v bs q ∧ Fr (fun i => i = g) w (W.putObj D o) := by
  subst hpq
  have hF : Fr (fun i => i = ob ∨ i = ob + 1 ∨ i = D) W0 (W.putObj D o) := (h4.trans (T := fun i => i = D) (Fr.grown (grownBy_putObj' W D o) (fun i _ e => by cases e; rfl)) (fun i hi e => by omega)) |>.trans (T := fun _ => False) (Fr.refl _ _) (fun _ _ h => h.elim) |> fun h => ⟨h.os, h.tape, h.output, h.size, fun i hi hn => h.block i hi (fun e => hn (by omega))⟩
  refine ⟨⟨(hF.block g (by omega) (by omega)).trans XR.blk, own_fr XR.own hF (fun b hb => by have := hvb b hb; omega), XR.le, XR.small, XR.bytes⟩, XF.trans hF (fun i hi e => by omega)⟩
set_option maxRecDepth 100000 in
set_option maxHeartbeats 2000000 in
theorem types46_any (w : World) (g base : Nat) (v : Value) (bs : List Int) (p : Nat) (most : Int) (h0 : 0 ≤ most) (h1 : most ≤ 64) (hR : ReelIs w g base v bs p) :
    Calls Try.prog 46 #[.pointer (some ⟨g, 0, none⟩), .int .i64 most] w fun e w' => ∃ u, e = .returned (.tuple #[u, .bool (typesR bs p most).1]) ∧
      w'.ownsRow w.heap.size 3 1 u (typesR bs p most).2.1.length (nums .i64 (typesR bs p most).2.1) ∧ ReelIs w' g base v bs (p + (typesR bs p most).2.2) ∧ Fr (fun i => i = g) w w' := by
  have hw0 : IntKind.u64.wrap most = most := by unfold IntKind.wrap; simp [IntKind.bits, IntKind.signed]; omega
  by_cases he : (readN (rest bs p) most).2.1 = 0
  case neg =>
    have e1 : typesR bs p most = (false, [], (readN (rest bs p) most).2.2) := by unfold typesR; rw [if_neg he]
    rw [e1]
    have HN := Lib.hid (RNumber_any w g base v bs p most hR)
    have he' : ¬ (((readN (rest bs p) most).2.1 : Nat) : Int) = 0 := by omega
    clear hR e1 he
    generalize readN (rest bs p) most = N at *
    refine (callsIn_wide (n := 9)).1 ?_
    refine callsIn_of_wp Try.func46 rfl trivial ?_ rfl
    simp only [Try.ntmps46, List.size_toArray, List.length_cons, List.length_nil, Nat.reduceAdd, Nat.reduceSub, Array.replicate_succ, Array.replicate_zero, List.push_toArray, List.append_toArray, List.nil_append, List.cons_append]
    gi_wp2
    refine wpIn_scope_straight ?_
    gi_wp2_with (gi_at_call 68; refine (callsIn_wide.2 HN.out).mono ?_; rintro e w1 ⟨rfl, hR1, hF1⟩; have HR1 := Lib.hid hR1; have HF1 := Lib.hid hF1; clear hR1 hF1)
    rw [Exit.noGoto_ret]
    refine bodyPost_ret (results_tmp2 rfl _ _ _) rfl ?_
    exact ⟨_, rfl, World.ownsRow_nil _ _ _ _, HR1.out, HF1.out⟩
  case pos =>
    refine (callsIn_wide (n := 9)).1 ?_
    refine callsIn_of_wp_marks Try.func46 rfl trivial ?_ rfl
    simp only [Try.ntmps46, List.size_toArray, List.length_cons, List.length_nil, Nat.reduceAdd, Nat.reduceSub, Array.replicate_succ, Array.replicate_zero, List.push_toArray, List.append_toArray, List.nil_append, List.cons_append]
    have HN := Lib.hid (RNumber_any w g base v bs p most hR)
    have hmost := readN_most he
    obtain ⟨n, hn⟩ : ∃ n, (readN (rest bs p) most).1 = n := ⟨_, rfl⟩
    obtain ⟨k1, hk1⟩ : ∃ k1, (readN (rest bs p) most).2.2 = k1 := ⟨_, rfl⟩
    have hby := hR.bytes
    rw [hn, hk1] at HN
    have eT : typesR bs p most = if (readR bs (p + k1) ((n + 3) / 4 : Nat)).2.1 = 0 ∧ tysB (readR bs (p + k1) ((n + 3) / 4 : Nat)).1 n then (true, (tys (readR bs (p + k1) ((n + 3) / 4 : Nat)).1).take n, k1 + (readR bs (p + k1) ((n + 3) / 4 : Nat)).2.2) else (false, [], k1 + (readR bs (p + k1) ((n + 3) / 4 : Nat)).2.2) := by
      unfold typesR; rw [if_pos he, hn, hk1]
    rw [eT]
    rw [he] at HN
    rw [hn] at hmost
    clear he hn hk1 hR eT
    have hm1 : IntKind.i64.wrap (n : Int) = n := by rw [IntKind.wrap_i64]; omega
    have hm2 : IntKind.i64.wrap ((n : Int) + 4) = (n : Int) + 4 := by rw [IntKind.wrap_i64]; omega
    have hm3 : IntKind.i64.wrap ((n : Int) + 4 - 1) = (n : Int) + 4 - 1 := by rw [IntKind.wrap_i64]; omega
    have hm4 : ((n : Int) + 4 - 1).tdiv 4 = (((n + 3) / 4 : Nat) : Int) := by rw [Int.tdiv_eq_ediv_of_nonneg (by omega)]; omega
    have hlB := readR_le (bs := bs) (p := p + k1) (n := (n + 3) / 4)
    have hlE := fun h => readR_len (bs := bs) (p := p + k1) (n := (n + 3) / 4) h
    have hlZ := fun h => readR_err (bs := bs) (p := p + k1) (n := (n + 3) / 4) h
    have hlM := fun b h => hby b (readR_mem (bs := bs) (p := p + k1) (n := (n + 3) / 4) h)
    generalize hQ : readR bs (p + k1) ((n + 3) / 4 : Nat) = R at *
    have HL := Lib.hid hlB
    have HE := Lib.hid hlE
    have HZ := Lib.hid hlZ
    have HM := Lib.hid hlM
    have hn64 : n ≤ 64 := by omega
    clear hby hlB hlE hlZ hlM h0 h1
    gi_wp2
    refine wpIn_scope_straight ?_
    gi_wp2_with (first | (gi_at_call 68; refine (callsIn_wide.2 HN.out).mono ?_; rintro e w1 ⟨rfl, hR1, hF1⟩; have HF1 := Lib.hid hF1; have HN2 := Lib.hid (Raw_any w1 g base v bs (p + k1) ((n + 3) / 4 : Nat) hR1 (by omega) (by omega)); rw [hQ] at HN2; clear hF1 hR1) | (gi_at_call 69; refine (callsIn_wide.2 HN2.out).mono ?_; rintro e w2 ⟨u, rfl, hu, hR2, hF2⟩; obtain ⟨A, c, rfl⟩ := own_slice hu; have HF2 := Lib.hid hF2; have HU := Lib.hid hu; have HR2 := Lib.hid hR2; clear hu hR2 hF2))
    refine wpIn_label ?_
    gi_wp2_with (gi_at_call 70; refine (callsIn_wide.2 (unpacked_any _ A _ c n)).mono ?_; rintro e w3 ⟨rfl, rfl⟩)
    have X0 := (World.alloc_heap_old' (((w2.alloc (.cells #[.slice none 0 0] 38)).alloc (.cells #[.bool ((R.2.1 : Int) == 0)] 4)).alloc (.cells #[.slice A R.1.length c] 23)) (.cells #[.int .i64 n] 3) (i := w2.heap.size) (by simp; omega)).trans ((World.alloc_heap_old' _ _ (by simp; omega)).trans ((World.alloc_heap_old' _ _ (by simp)).trans (World.alloc_heap_new w2 (.cells #[.slice none 0 0] 38))))
    have X1 : Boxed ((((w2.alloc (.cells #[.slice none 0 0] 38)).alloc (.cells #[.bool ((R.2.1 : Int) == 0)] 4)).alloc (.cells #[.slice A R.1.length c] 23)).alloc (.cells #[.int .i64 n] 3)) _ 4 (.bool ((R.2.1 : Int) == 0)) := ((Boxed.new (w2.alloc (.cells #[.slice none 0 0] 38)) 4 (.bool ((R.2.1 : Int) == 0))).alloc _).alloc _
    have X2 := (World.alloc_heap_old' (((w2.alloc (.cells #[.slice none 0 0] 38)).alloc (.cells #[.bool ((R.2.1 : Int) == 0)] 4)).alloc (.cells #[.slice A R.1.length c] 23)) (.cells #[.int .i64 n] 3) (i := w2.heap.size + 2) (by simp)).trans (alloc_at ((w2.alloc (.cells #[.slice none 0 0] 38)).alloc (.cells #[.bool ((R.2.1 : Int) == 0)] 4)) (.cells #[.slice A R.1.length c] 23) (by simp))
    have X3 := World.alloc_heap_new (((w2.alloc (.cells #[.slice none 0 0] 38)).alloc (.cells #[.bool ((R.2.1 : Int) == 0)] 4)).alloc (.cells #[.slice A R.1.length c] 23)) (.cells #[.int .i64 n] 3)
    simp only [World.size_alloc] at X1 X3
    have hB0 : Below w2.heap.size w2 ((((w2.alloc (.cells #[.slice none 0 0] 38)).alloc (.cells #[.bool ((R.2.1 : Int) == 0)] 4)).alloc (.cells #[.slice A R.1.length c] 23)).alloc (.cells #[.int .i64 n] 3)) := by
      repeat (first | exact Below.refl _ _ | apply below_alloc)
    have X4 := pw_own_below HU.out hB0
    have XR := HR2.out.below hB0
    have hgl : g < w2.heap.size := blk_lt HR2.out.blk
    have XF : Fr (fun i => i = g) w ((((w2.alloc (.cells #[.slice none 0 0] 38)).alloc (.cells #[.bool ((R.2.1 : Int) == 0)] 4)).alloc (.cells #[.slice A R.1.length c] 23)).alloc (.cells #[.int .i64 n] 3)) := (HF1.out.trans HF2.out (fun _ _ h => h)).trans (T := fun _ => False) (Fr.of_below hB0) (fun _ _ h => h.elim)
    have hle : w.heap.size ≤ w2.heap.size := (HF1.out.trans HF2.out (fun _ _ h => h)).size
    have hub : ∀ b, (Value.slice A R.1.length c).ownBlock = some b → b < w2.heap.size := own_lt HU.out
    have hvb : ∀ b, v.ownBlock = some b → b < w2.heap.size := own_lt HR2.out.own
    have hsz : ((((w2.alloc (.cells #[.slice none 0 0] 38)).alloc (.cells #[.bool ((R.2.1 : Int) == 0)] 4)).alloc (.cells #[.slice A R.1.length c] 23)).alloc (.cells #[.int .i64 n] 3)).heap.size = w2.heap.size + 4 := by simp
    generalize (((w2.alloc (.cells #[.slice none 0 0] 38)).alloc (.cells #[.bool ((R.2.1 : Int) == 0)] 4)).alloc (.cells #[.slice A R.1.length c] 23)).alloc (.cells #[.int .i64 n] 3) = W0 at *
    generalize w2.heap.size = ob at *
    generalize w1.heap.size = u0 at *
    clear HU HR2 HF1 HF2 HN HN2 hB0 hQ
    obtain ⟨B, mv⟩ := R
    obtain ⟨er, k2⟩ := mv
    simp only at *
    obtain ⟨ok, hok⟩ : ∃ ok : Bool, ((er : Int) == 0) = ok := ⟨_, rfl⟩
    rw [hok] at X1 ⊢
    refine range_adm rfl (by omega) (gf := 91) (lb := #[.pointer (some ⟨ob + 2, 0, none⟩), .pointer (some ⟨ob + 3, 0, none⟩)]) rfl trivial (enters_of Try.func91 (by kernel_rfl) rfl)
      (encs := fun x : Nat => #[.int .i64 (tyAt B x), .bool (tyOk B n x)]) (Adm := fun pre x => x = pre.length ∧ x < 4 * B.length) (Kp := KpU (ob + 2) (ob + 3) (.slice A B.length c)) (S := fun ys => ys = List.range (4 * B.length)) (Sp := fun _ => True)
      (fun l J Jx W hW hJ hJx hY h0 => unp_in 8 l (ob + 2) (ob + 3) u0 n A B.length c B (by have := HL.out; omega) HM.out J Jx hY W ((hW.block _ (by omega)).trans X2) ((hW.block _ (by omega)).trans X3) (pw_own_below X4 (hW.mono (by omega))) h0)
      (fun h k => ⟨k.1.trans h.1, k.2.1.trans h.2.1, fun b e => (k.2.2 b e).trans (h.2.2 b e)⟩) (fun W l o o' hl _ _ _ => ⟨World.putObj_heap_other (by omega), World.putObj_heap_other (by omega), fun b e => World.putObj_heap_other (by have := hub b e; omega)⟩) (fun _ => rfl)
      (fun pre W => (∀ y ∈ pre, tyOk B n y = true) ∧ (∃ o, W.heap[ob]? = some (.cells #[o] 38 (0, 0)) ∧ W.ownsRow (ob + 4) 3 1 o pre.length (nums .i64 (pre.map (tyAt B)))) ∧ Boxed W (ob + 1) 4 (.bool ok) ∧ Fr (fun i => i = ob ∨ i = ob + 1) W0 W)
      (fun cd _ W => cd = .exit 0 ∧ tysB B n = false ∧ Boxed W (ob + 1) 4 (.bool false) ∧ Fr (fun i => i = ob ∨ i = ob + 1) W0 W)
      ?hI ?hIx ⟨fun y hy => by simp at hy, ⟨_, X0, World.ownsRow_nil _ _ _ _⟩, X1, Fr.refl _ _⟩
      (fun x a' _ => a' = { tmps := #[.pointer (some ⟨g, 0, none⟩), .int .i64 most, undef, undef, .slice none 0 0, .bool false, .int .u64 n, .int .i64 er, .int .i64 n, .slice A B.length c, .pointer (some ⟨ob, 0, none⟩), .pointer (some ⟨ob + 1, 0, none⟩), .int .i64 (tyAt B x), .bool (tyOk B n x), .tuple #[.int .u64 n, .int .i64 0], .pointer (some ⟨g, 0, none⟩), .int .i64 most, .int .u64 most, .tuple #[.int .u64 n, .int .i64 0], .int .u64 n, .int .i64 0, .int .i64 0, .bool false, .int .u64 n, .int .i64 n, .tuple #[.slice A B.length c, .int .i64 er], .pointer (some ⟨g, 0, none⟩), .int .i64 n, .int .i64 ((n : Int) + 4), .int .i64 ((n : Int) + 4 - 1), .int .i64 (((n : Int) + 3) / 4), .tuple #[.slice A B.length c, .int .i64 er], .slice A B.length c, .int .i64 er, .int .i64 er, .bool ok, .slice A B.length c, .int .i64 n, .func (.func 91) #[] #[.pointer (some ⟨ob + 1 + 1, 0, none⟩), .pointer (some ⟨ob + 1 + 1 + 1, 0, none⟩)], .int .i64 (tyAt B x), .bool (tyOk B n x), undef, undef, undef, undef, undef, undef, undef, undef, undef, undef, undef, undef], defers := [] })
      ?hAx ?assign ?body ?done ?stop
    case hI =>
      rintro pre W W' row ⟨h1, ⟨o, ho, hrow⟩, h3, h4⟩ hg hr
      have hne : ∀ i, i < W0.heap.size → some i ≠ row := fun i hi e => by have := (hr i e.symm).1; omega
      refine ⟨h1, ⟨o, (hg.block ob (blk_lt ho) (hne _ (by omega))).trans ho, hrow.kept hg ?_⟩, h3.kept hg (hne _ (by omega)), h4.trans (Fr.grown (S := fun i => W0.heap.size ≤ i) hg (fun i _ e => (hr i e).1)) (fun i hi hle => by omega)⟩
      rcases hrow.2 with ⟨rfl, _⟩ | ⟨g', cap, cur, rfl, _, hgb, _⟩
      · exact .inl rfl
      · refine .inr fun e' => ?_
        obtain ⟨_, o, ho, hc⟩ := hr g' (by simpa [Value.ownBlock] using e'.symm)
        rw [hgb] at ho; cases ho; cases hc
    case hIx =>
      rintro cd pre W W' row ⟨h1, h2, h3, h4⟩ hg hr
      have hne : ∀ i, i < W0.heap.size → some i ≠ row := fun i hi e => by have := (hr i e.symm).1; omega
      exact ⟨h1, h2, h3.kept hg (hne _ (by omega)), h4.trans (Fr.grown (S := fun i => W0.heap.size ≤ i) hg (fun i _ e => (hr i e).1)) (fun i hi hle => by omega)⟩
    case hAx =>
      rintro x a' _ W W' row h hg hr
      exact h
    case assign =>
      rintro l pre x W K h1 ⟨rfl, hx3⟩ hK
      gi_wp2
      exact hK _ _ ((KeepsOthers.refl W).from _) ⟨rfl, rfl, fun _ _ => rfl⟩ h1 rfl
    case body =>
      rintro l pre x a' W hl ⟨r, hr⟩ ⟨h1, ⟨o, ho, hrow⟩, h3, h4⟩ ⟨hx, hx3⟩ rfl
      have zo := blk_cell ho 0
      have zf := blk_frozen ho 0
      have zb := h3.cell
      have zbf := h3.frozen
      simp only [List.getElem?_toArray, List.getElem?_cons_zero] at zo
      have hok1 : ok = true := by
        rw [← hok]
        by_cases h : er = 0
        · simp [h]
        · have := HZ.out h
          subst this
          simp at hx3
      subst hok1
      have HXE := Lib.hid hx
      clear hx
      by_cases hT : tyOk B n x = true
      · have HT := Lib.hid hT
        rw [hT]
        have hlen : pre.length + 1 ≤ 128 := by have := HL.out; have := HXE.out; omega
        have ho1 := (Below.heap_setCell W ⟨ob + 1, 0, none⟩ (.bool true) ob (by simp)).trans ho
        have hrow1 := own_setCell (p := ⟨ob + 1, 0, none⟩) hrow (own_ne hrow h3 (by decide)) (.bool true)
        have h31 : Boxed (W.setCell ⟨ob + 1, 0, none⟩ (.bool true)) (ob + 1) 4 (.bool true) := by have := blk_set h3 0 (.bool true); simp only [List.setIfInBounds_toArray, List.set_cons_zero] at this; exact this
        have h41 := h4.set ⟨ob + 1, 0, none⟩ (.bool true) (fun _ => .inr rfl)
        have hk1 : KeepsFrom (ob + 4) W (W.setCell ⟨ob + 1, 0, none⟩ (.bool true)) := (KeepsOthers.setCell _ _ _).from _
        have hp1 : KpU (ob + 2) (ob + 3) (.slice A B.length c) W (W.setCell ⟨ob + 1, 0, none⟩ (.bool true)) := ⟨Below.heap_setCell _ _ _ _ (by simp), Below.heap_setCell _ _ _ _ (by simp), fun b hb => Below.heap_setCell _ _ _ _ (by have := hub b hb; simp; omega)⟩
        have HST := Lib.hid (fun w2 o2 => types_step (w2 := w2) (o2 := o2) (x := x) hub hsz ho1 hrow1 h31 h41)
        have HK1 := Lib.hid hk1
        have HP1 := Lib.hid hp1
        have zo1 := blk_cell ho1 0
        simp only [List.getElem?_toArray, List.getElem?_cons_zero] at zo1
        have HR1 := Lib.hid hrow1
        have hszW : ob + 4 ≤ W.heap.size := hsz ▸ h4.size
        have H1 := Lib.hid h1
        clear hT hr ho h3 hrow ho1 hrow1 h31 h41 hk1 hp1 h1 h4
        obtain ⟨i0, hi0, hz0, hz1, hz2⟩ := info_parts info3
        gi_wp2_with (gi_at_builtin; refine wpListIn_append_own _ rfl _ _ 38 rfl (ob + 4) 3 i0 (.int .i64 0) 1 8 Try.underlying38 hi0 hz0 hz1 hz2 rfl (by decide) _ _ _ rfl (HR1.out.alloc _) ⟨W.heap.size, 0, none⟩ 1 1 [.int .i64 (tyAt B x)] rfl rfl (cell_one_at _ _ _ (by simp)) (by simp [Value.oneCell']) (by unfold maxLen; omega) (by omega) (by simp; omega) ?_; intro o2 w2 hown hg2 _; obtain ⟨A5, c5, rfl⟩ := own_slice hown; obtain ⟨zz1, zz2, zz3⟩ := HST.out w2 _ hown hg2 (by decide); have HZ3 := Lib.hid zz3; clear zz3)
        obtain ⟨j1, j2, j3, j4, j5⟩ := HZ3.out
        refine ⟨by rw [hsz]; exact HK1.out.trans j1, ⟨j2.1.trans HP1.out.1, j2.2.1.trans HP1.out.2.1, fun b hb => (j2.2.2 b hb).trans (HP1.out.2.2 b hb)⟩, fun y hy => ?_, j3, j4, j5⟩
        rcases List.mem_append.1 hy with h | h
        · exact H1.out y h
        · obtain rfl := List.mem_singleton.1 h
          exact HT.out
      · have hT : tyOk B n x = false := by simpa using hT
        have hx2 : x < 4 * B.length := hx3
        have HT := Lib.hid hT
        rw [hT]
        clear hT hr
        gi_wp2
        refine ⟨(KeepsOthers.setCell _ _ _).from _, rfl, ?_, ?_, h4.set _ _ (fun _ => .inr rfl)⟩
        · unfold tysB
          rw [Bool.eq_false_iff]
          intro hall
          have := List.all_eq_true.1 hall x (List.mem_range.2 hx2)
          rw [HT.out] at this; cases this
        · have := blk_set h3 0 (.bool false)
          simp only [List.setIfInBounds_toArray, List.set_cons_zero] at this
          exact this
    case done =>
      rintro D ys W hD rfl ⟨h1, ⟨o, ho, hrow⟩, h3, h4⟩ hK
      have zo := blk_cell ho 0
      have zb := h3.cell
      simp only [List.getElem?_toArray, List.getElem?_cons_zero] at zo
      rw [List.length_range] at hrow
      obtain ⟨A2, c2, rfl⟩ := own_slice hrow
      have hcap := own_cap hrow
      have hall : tysB B n = true := List.all_eq_true.2 (fun y hy => h1 y hy)
      clear h1
      by_cases her : er = 0
      · subst her
        have hB := HE.out rfl
        obtain rfl : ok = true := by rw [← hok]; rfl
        have hn1 : n ≤ 4 * B.length := by omega
        have hn2 : (n : Int) ≤ c2 := by omega
        have hi : (if 0 = 0 ∧ tysB B n = true then (true, (tys B).take n, k1 + k2) else ((false, [], k1 + k2) : Bool × List Int × Nat)) = (true, (tys B).take n, k1 + k2) := if_pos ⟨rfl, hall⟩
        have HI := Lib.hid hi
        clear hi
        clear hB
        gi_wp2
        refine ⟨by simp, .inl ⟨_, _, rfl, run_takeDeferred hK, ?_⟩⟩
        refine ⟨_, results_tmp2 rfl _ _ _, ?_⟩
        obtain ⟨f1, f2⟩ := types_fin (q := p + (k1 + k2)) XF XR h4 hgl hvb hsz hle hD (by omega) (.deferred none)
        refine ⟨_, rfl, ?_, f1, f2⟩
        have hr := ownsRow_putObj (own_take (own_less hrow (base := w.heap.size) (by omega)) hn1) (.deferred none) hK rfl
        rw [Nat.mul_one, nums_take] at hr
        have e : min n (tys B).length = n := by unfold tys; simp; omega
        rw [e]
        exact hr
      · obtain rfl : ok = false := by rw [← hok]; simp; omega
        have hi : (if er = 0 ∧ tysB B n = true then (true, (tys B).take n, k1 + k2) else ((false, [], k1 + k2) : Bool × List Int × Nat)) = (false, [], k1 + k2) := if_neg (fun h => her h.1)
        have HI := Lib.hid hi
        clear hi
        clear hall
        gi_wp2
        rw [Exit.noGoto_ret]
        refine ⟨by simp, .inl ⟨_, _, rfl, run_takeDeferred hK, ?_⟩⟩
        refine ⟨_, results_tmp2 rfl _ _ _, ?_⟩
        rw [HI.out]
        exact ⟨_, rfl, World.ownsRow_nil _ _ _ _, types_fin (q := p + (k1 + k2)) XF XR h4 hgl hvb hsz hle hD (by omega) (.deferred none)⟩
    case stop =>
      rintro D cd pre W hD _ ⟨rfl, h2, h3, h4⟩ hK
      have zb := h3.cell
      have hi : (if er = 0 ∧ tysB B n = true then (true, (tys B).take n, k1 + k2) else ((false, [], k1 + k2) : Bool × List Int × Nat)) = (false, [], k1 + k2) := if_neg (fun h => by rw [h2] at h; cases h.2)
      have HI := Lib.hid hi
      clear hi
      clear h2
      gi_wp2
      rw [Exit.noGoto_ret]
      refine ⟨by simp, .inl ⟨_, _, rfl, run_takeDeferred hK, ?_⟩⟩
      refine ⟨_, results_tmp2 rfl _ _ _, ?_⟩
      rw [HI.out]
      exact ⟨_, rfl, World.ownsRow_nil _ _ _ _, types_fin (q := p + (k1 + k2)) XF XR h4 hgl hvb hsz hle hD (by omega) (.deferred none)⟩
set_option maxRecDepth 100000 in
set_option maxHeartbeats 2000000 in
theorem types57_any (w : World) (g base : Nat) (v : Value) (bs : List Int) (p : Nat) (most : Int) (h0 : 0 ≤ most) (h1 : most ≤ 64) (hR : ReelIs w g base v bs p) :
    Calls Try.prog 57 #[.pointer (some ⟨g, 0, none⟩), .int .i64 most] w fun e w' => ∃ u, e = .returned (.tuple #[u, .bool (typesR bs p most).1]) ∧
      w'.ownsRow w.heap.size 3 1 u (typesR bs p most).2.1.length (nums .i64 (typesR bs p most).2.1) ∧ ReelIs w' g base v bs (p + (typesR bs p most).2.2) ∧ Fr (fun i => i = g) w w' := by
  have hw0 : IntKind.u64.wrap most = most := by unfold IntKind.wrap; simp [IntKind.bits, IntKind.signed]; omega
  by_cases he : (readN (rest bs p) most).2.1 = 0
  case neg =>
    have e1 : typesR bs p most = (false, [], (readN (rest bs p) most).2.2) := by unfold typesR; rw [if_neg he]
    rw [e1]
    have HN := Lib.hid (RNumber_any w g base v bs p most hR)
    have he' : ¬ (((readN (rest bs p) most).2.1 : Nat) : Int) = 0 := by omega
    clear hR e1 he
    generalize readN (rest bs p) most = N at *
    refine (callsIn_wide (n := 9)).1 ?_
    refine callsIn_of_wp Try.func57 rfl trivial ?_ rfl
    simp only [Try.ntmps57, List.size_toArray, List.length_cons, List.length_nil, Nat.reduceAdd, Nat.reduceSub, Array.replicate_succ, Array.replicate_zero, List.push_toArray, List.append_toArray, List.nil_append, List.cons_append]
    gi_wp2
    refine wpIn_scope_straight ?_
    gi_wp2_with (gi_at_call 68; refine (callsIn_wide.2 HN.out).mono ?_; rintro e w1 ⟨rfl, hR1, hF1⟩; have HR1 := Lib.hid hR1; have HF1 := Lib.hid hF1; clear hR1 hF1)
    rw [Exit.noGoto_ret]
    refine bodyPost_ret (results_tmp2 rfl _ _ _) rfl ?_
    exact ⟨_, rfl, World.ownsRow_nil _ _ _ _, HR1.out, HF1.out⟩
  case pos =>
    refine (callsIn_wide (n := 9)).1 ?_
    refine callsIn_of_wp_marks Try.func57 rfl trivial ?_ rfl
    simp only [Try.ntmps57, List.size_toArray, List.length_cons, List.length_nil, Nat.reduceAdd, Nat.reduceSub, Array.replicate_succ, Array.replicate_zero, List.push_toArray, List.append_toArray, List.nil_append, List.cons_append]
    have HN := Lib.hid (RNumber_any w g base v bs p most hR)
    have hmost := readN_most he
    obtain ⟨n, hn⟩ : ∃ n, (readN (rest bs p) most).1 = n := ⟨_, rfl⟩
    obtain ⟨k1, hk1⟩ : ∃ k1, (readN (rest bs p) most).2.2 = k1 := ⟨_, rfl⟩
    have hby := hR.bytes
    rw [hn, hk1] at HN
    have eT : typesR bs p most = if (readR bs (p + k1) ((n + 3) / 4 : Nat)).2.1 = 0 ∧ tysB (readR bs (p + k1) ((n + 3) / 4 : Nat)).1 n then (true, (tys (readR bs (p + k1) ((n + 3) / 4 : Nat)).1).take n, k1 + (readR bs (p + k1) ((n + 3) / 4 : Nat)).2.2) else (false, [], k1 + (readR bs (p + k1) ((n + 3) / 4 : Nat)).2.2) := by
      unfold typesR; rw [if_pos he, hn, hk1]
    rw [eT]
    rw [he] at HN
    rw [hn] at hmost
    clear he hn hk1 hR eT
    have hm1 : IntKind.i64.wrap (n : Int) = n := by rw [IntKind.wrap_i64]; omega
    have hm2 : IntKind.i64.wrap ((n : Int) + 4) = (n : Int) + 4 := by rw [IntKind.wrap_i64]; omega
    have hm3 : IntKind.i64.wrap ((n : Int) + 4 - 1) = (n : Int) + 4 - 1 := by rw [IntKind.wrap_i64]; omega
    have hm4 : ((n : Int) + 4 - 1).tdiv 4 = (((n + 3) / 4 : Nat) : Int) := by rw [Int.tdiv_eq_ediv_of_nonneg (by omega)]; omega
    have hlB := readR_le (bs := bs) (p := p + k1) (n := (n + 3) / 4)
    have hlE := fun h => readR_len (bs := bs) (p := p + k1) (n := (n + 3) / 4) h
    have hlZ := fun h => readR_err (bs := bs) (p := p + k1) (n := (n + 3) / 4) h
    have hlM := fun b h => hby b (readR_mem (bs := bs) (p := p + k1) (n := (n + 3) / 4) h)
    generalize hQ : readR bs (p + k1) ((n + 3) / 4 : Nat) = R at *
    have HL := Lib.hid hlB
    have HE := Lib.hid hlE
    have HZ := Lib.hid hlZ
    have HM := Lib.hid hlM
    have hn64 : n ≤ 64 := by omega
    clear hby hlB hlE hlZ hlM h0 h1
    gi_wp2
    refine wpIn_scope_straight ?_
    gi_wp2_with (first | (gi_at_call 68; refine (callsIn_wide.2 HN.out).mono ?_; rintro e w1 ⟨rfl, hR1, hF1⟩; have HF1 := Lib.hid hF1; have HN2 := Lib.hid (Raw_any w1 g base v bs (p + k1) ((n + 3) / 4 : Nat) hR1 (by omega) (by omega)); rw [hQ] at HN2; clear hF1 hR1) | (gi_at_call 69; refine (callsIn_wide.2 HN2.out).mono ?_; rintro e w2 ⟨u, rfl, hu, hR2, hF2⟩; obtain ⟨A, c, rfl⟩ := own_slice hu; have HF2 := Lib.hid hF2; have HU := Lib.hid hu; have HR2 := Lib.hid hR2; clear hu hR2 hF2))
    refine wpIn_label ?_
    gi_wp2_with (gi_at_call 70; refine (callsIn_wide.2 (unpacked_any _ A _ c n)).mono ?_; rintro e w3 ⟨rfl, rfl⟩)
    have X0 := (World.alloc_heap_old' (((w2.alloc (.cells #[.slice none 0 0] 22)).alloc (.cells #[.bool ((R.2.1 : Int) == 0)] 4)).alloc (.cells #[.slice A R.1.length c] 23)) (.cells #[.int .i64 n] 3) (i := w2.heap.size) (by simp; omega)).trans ((World.alloc_heap_old' _ _ (by simp; omega)).trans ((World.alloc_heap_old' _ _ (by simp)).trans (World.alloc_heap_new w2 (.cells #[.slice none 0 0] 22))))
    have X1 : Boxed ((((w2.alloc (.cells #[.slice none 0 0] 22)).alloc (.cells #[.bool ((R.2.1 : Int) == 0)] 4)).alloc (.cells #[.slice A R.1.length c] 23)).alloc (.cells #[.int .i64 n] 3)) _ 4 (.bool ((R.2.1 : Int) == 0)) := ((Boxed.new (w2.alloc (.cells #[.slice none 0 0] 22)) 4 (.bool ((R.2.1 : Int) == 0))).alloc _).alloc _
    have X2 := (World.alloc_heap_old' (((w2.alloc (.cells #[.slice none 0 0] 22)).alloc (.cells #[.bool ((R.2.1 : Int) == 0)] 4)).alloc (.cells #[.slice A R.1.length c] 23)) (.cells #[.int .i64 n] 3) (i := w2.heap.size + 2) (by simp)).trans (alloc_at ((w2.alloc (.cells #[.slice none 0 0] 22)).alloc (.cells #[.bool ((R.2.1 : Int) == 0)] 4)) (.cells #[.slice A R.1.length c] 23) (by simp))
    have X3 := World.alloc_heap_new (((w2.alloc (.cells #[.slice none 0 0] 22)).alloc (.cells #[.bool ((R.2.1 : Int) == 0)] 4)).alloc (.cells #[.slice A R.1.length c] 23)) (.cells #[.int .i64 n] 3)
    simp only [World.size_alloc] at X1 X3
    have hB0 : Below w2.heap.size w2 ((((w2.alloc (.cells #[.slice none 0 0] 22)).alloc (.cells #[.bool ((R.2.1 : Int) == 0)] 4)).alloc (.cells #[.slice A R.1.length c] 23)).alloc (.cells #[.int .i64 n] 3)) := by
      repeat (first | exact Below.refl _ _ | apply below_alloc)
    have X4 := pw_own_below HU.out hB0
    have XR := HR2.out.below hB0
    have hgl : g < w2.heap.size := blk_lt HR2.out.blk
    have XF : Fr (fun i => i = g) w ((((w2.alloc (.cells #[.slice none 0 0] 22)).alloc (.cells #[.bool ((R.2.1 : Int) == 0)] 4)).alloc (.cells #[.slice A R.1.length c] 23)).alloc (.cells #[.int .i64 n] 3)) := (HF1.out.trans HF2.out (fun _ _ h => h)).trans (T := fun _ => False) (Fr.of_below hB0) (fun _ _ h => h.elim)
    have hle : w.heap.size ≤ w2.heap.size := (HF1.out.trans HF2.out (fun _ _ h => h)).size
    have hub : ∀ b, (Value.slice A R.1.length c).ownBlock = some b → b < w2.heap.size := own_lt HU.out
    have hvb : ∀ b, v.ownBlock = some b → b < w2.heap.size := own_lt HR2.out.own
    have hsz : ((((w2.alloc (.cells #[.slice none 0 0] 22)).alloc (.cells #[.bool ((R.2.1 : Int) == 0)] 4)).alloc (.cells #[.slice A R.1.length c] 23)).alloc (.cells #[.int .i64 n] 3)).heap.size = w2.heap.size + 4 := by simp
    generalize (((w2.alloc (.cells #[.slice none 0 0] 22)).alloc (.cells #[.bool ((R.2.1 : Int) == 0)] 4)).alloc (.cells #[.slice A R.1.length c] 23)).alloc (.cells #[.int .i64 n] 3) = W0 at *
    generalize w2.heap.size = ob at *
    generalize w1.heap.size = u0 at *
    clear HU HR2 HF1 HF2 HN HN2 hB0 hQ
    obtain ⟨B, mv⟩ := R
    obtain ⟨er, k2⟩ := mv
    simp only at *
    obtain ⟨ok, hok⟩ : ∃ ok : Bool, ((er : Int) == 0) = ok := ⟨_, rfl⟩
    rw [hok] at X1 ⊢
    refine range_adm rfl (by omega) (gf := 91) (lb := #[.pointer (some ⟨ob + 2, 0, none⟩), .pointer (some ⟨ob + 3, 0, none⟩)]) rfl trivial (enters_of Try.func91 (by kernel_rfl) rfl)
      (encs := fun x : Nat => #[.int .i64 (tyAt B x), .bool (tyOk B n x)]) (Adm := fun pre x => x = pre.length ∧ x < 4 * B.length) (Kp := KpU (ob + 2) (ob + 3) (.slice A B.length c)) (S := fun ys => ys = List.range (4 * B.length)) (Sp := fun _ => True)
      (fun l J Jx W hW hJ hJx hY h0 => unp_in 8 l (ob + 2) (ob + 3) u0 n A B.length c B (by have := HL.out; omega) HM.out J Jx hY W ((hW.block _ (by omega)).trans X2) ((hW.block _ (by omega)).trans X3) (pw_own_below X4 (hW.mono (by omega))) h0)
      (fun h k => ⟨k.1.trans h.1, k.2.1.trans h.2.1, fun b e => (k.2.2 b e).trans (h.2.2 b e)⟩) (fun W l o o' hl _ _ _ => ⟨World.putObj_heap_other (by omega), World.putObj_heap_other (by omega), fun b e => World.putObj_heap_other (by have := hub b e; omega)⟩) (fun _ => rfl)
      (fun pre W => (∀ y ∈ pre, tyOk B n y = true) ∧ (∃ o, W.heap[ob]? = some (.cells #[o] 22 (0, 0)) ∧ W.ownsRow (ob + 4) 3 1 o pre.length (nums .i64 (pre.map (tyAt B)))) ∧ Boxed W (ob + 1) 4 (.bool ok) ∧ Fr (fun i => i = ob ∨ i = ob + 1) W0 W)
      (fun cd _ W => cd = .exit 0 ∧ tysB B n = false ∧ Boxed W (ob + 1) 4 (.bool false) ∧ Fr (fun i => i = ob ∨ i = ob + 1) W0 W)
      ?hI ?hIx ⟨fun y hy => by simp at hy, ⟨_, X0, World.ownsRow_nil _ _ _ _⟩, X1, Fr.refl _ _⟩
      (fun x a' _ => a' = { tmps := #[.pointer (some ⟨g, 0, none⟩), .int .i64 most, undef, undef, .slice none 0 0, .bool false, .int .u64 n, .int .i64 er, .int .i64 n, .slice A B.length c, .pointer (some ⟨ob, 0, none⟩), .pointer (some ⟨ob + 1, 0, none⟩), .int .i64 (tyAt B x), .bool (tyOk B n x), .tuple #[.int .u64 n, .int .i64 0], .pointer (some ⟨g, 0, none⟩), .int .i64 most, .int .u64 most, .tuple #[.int .u64 n, .int .i64 0], .int .u64 n, .int .i64 0, .int .i64 0, .bool false, .int .u64 n, .int .i64 n, .tuple #[.slice A B.length c, .int .i64 er], .pointer (some ⟨g, 0, none⟩), .int .i64 n, .int .i64 ((n : Int) + 4), .int .i64 ((n : Int) + 4 - 1), .int .i64 (((n : Int) + 3) / 4), .tuple #[.slice A B.length c, .int .i64 er], .slice A B.length c, .int .i64 er, .int .i64 er, .bool ok, .slice A B.length c, .int .i64 n, .func (.func 91) #[] #[.pointer (some ⟨ob + 1 + 1, 0, none⟩), .pointer (some ⟨ob + 1 + 1 + 1, 0, none⟩)], .int .i64 (tyAt B x), .bool (tyOk B n x), undef, undef, undef, undef, undef, undef, undef, undef, undef, undef, undef, undef], defers := [] })
      ?hAx ?assign ?body ?done ?stop
    case hI =>
      rintro pre W W' row ⟨h1, ⟨o, ho, hrow⟩, h3, h4⟩ hg hr
      have hne : ∀ i, i < W0.heap.size → some i ≠ row := fun i hi e => by have := (hr i e.symm).1; omega
      refine ⟨h1, ⟨o, (hg.block ob (blk_lt ho) (hne _ (by omega))).trans ho, hrow.kept hg ?_⟩, h3.kept hg (hne _ (by omega)), h4.trans (Fr.grown (S := fun i => W0.heap.size ≤ i) hg (fun i _ e => (hr i e).1)) (fun i hi hle => by omega)⟩
      rcases hrow.2 with ⟨rfl, _⟩ | ⟨g', cap, cur, rfl, _, hgb, _⟩
      · exact .inl rfl
      · refine .inr fun e' => ?_
        obtain ⟨_, o, ho, hc⟩ := hr g' (by simpa [Value.ownBlock] using e'.symm)
        rw [hgb] at ho; cases ho; cases hc
    case hIx =>
      rintro cd pre W W' row ⟨h1, h2, h3, h4⟩ hg hr
      have hne : ∀ i, i < W0.heap.size → some i ≠ row := fun i hi e => by have := (hr i e.symm).1; omega
      exact ⟨h1, h2, h3.kept hg (hne _ (by omega)), h4.trans (Fr.grown (S := fun i => W0.heap.size ≤ i) hg (fun i _ e => (hr i e).1)) (fun i hi hle => by omega)⟩
    case hAx =>
      rintro x a' _ W W' row h hg hr
      exact h
    case assign =>
      rintro l pre x W K h1 ⟨rfl, hx3⟩ hK
      gi_wp2
      exact hK _ _ ((KeepsOthers.refl W).from _) ⟨rfl, rfl, fun _ _ => rfl⟩ h1 rfl
    case body =>
      rintro l pre x a' W hl ⟨r, hr⟩ ⟨h1, ⟨o, ho, hrow⟩, h3, h4⟩ ⟨hx, hx3⟩ rfl
      have zo := blk_cell ho 0
      have zf := blk_frozen ho 0
      have zb := h3.cell
      have zbf := h3.frozen
      simp only [List.getElem?_toArray, List.getElem?_cons_zero] at zo
      have hok1 : ok = true := by
        rw [← hok]
        by_cases h : er = 0
        · simp [h]
        · have := HZ.out h
          subst this
          simp at hx3
      subst hok1
      have HXE := Lib.hid hx
      clear hx
      by_cases hT : tyOk B n x = true
      · have HT := Lib.hid hT
        rw [hT]
        have hlen : pre.length + 1 ≤ 128 := by have := HL.out; have := HXE.out; omega
        have ho1 := (Below.heap_setCell W ⟨ob + 1, 0, none⟩ (.bool true) ob (by simp)).trans ho
        have hrow1 := own_setCell (p := ⟨ob + 1, 0, none⟩) hrow (own_ne hrow h3 (by decide)) (.bool true)
        have h31 : Boxed (W.setCell ⟨ob + 1, 0, none⟩ (.bool true)) (ob + 1) 4 (.bool true) := by have := blk_set h3 0 (.bool true); simp only [List.setIfInBounds_toArray, List.set_cons_zero] at this; exact this
        have h41 := h4.set ⟨ob + 1, 0, none⟩ (.bool true) (fun _ => .inr rfl)
        have hk1 : KeepsFrom (ob + 4) W (W.setCell ⟨ob + 1, 0, none⟩ (.bool true)) := (KeepsOthers.setCell _ _ _).from _
        have hp1 : KpU (ob + 2) (ob + 3) (.slice A B.length c) W (W.setCell ⟨ob + 1, 0, none⟩ (.bool true)) := ⟨Below.heap_setCell _ _ _ _ (by simp), Below.heap_setCell _ _ _ _ (by simp), fun b hb => Below.heap_setCell _ _ _ _ (by have := hub b hb; simp; omega)⟩
        have HST := Lib.hid (fun w2 o2 => types_step (w2 := w2) (o2 := o2) (x := x) hub hsz ho1 hrow1 h31 h41)
        have HK1 := Lib.hid hk1
        have HP1 := Lib.hid hp1
        have zo1 := blk_cell ho1 0
        simp only [List.getElem?_toArray, List.getElem?_cons_zero] at zo1
        have HR1 := Lib.hid hrow1
        have hszW : ob + 4 ≤ W.heap.size := hsz ▸ h4.size
        have H1 := Lib.hid h1
        clear hT hr ho h3 hrow ho1 hrow1 h31 h41 hk1 hp1 h1 h4
        obtain ⟨i0, hi0, hz0, hz1, hz2⟩ := info_parts info3
        gi_wp2_with (gi_at_builtin; refine wpListIn_append_own _ rfl _ _ 22 rfl (ob + 4) 3 i0 (.int .i64 0) 1 8 Try.underlying22 hi0 hz0 hz1 hz2 rfl (by decide) _ _ _ rfl (HR1.out.alloc _) ⟨W.heap.size, 0, none⟩ 1 1 [.int .i64 (tyAt B x)] rfl rfl (cell_one_at _ _ _ (by simp)) (by simp [Value.oneCell']) (by unfold maxLen; omega) (by omega) (by simp; omega) ?_; intro o2 w2 hown hg2 _; obtain ⟨A5, c5, rfl⟩ := own_slice hown; obtain ⟨zz1, zz2, zz3⟩ := HST.out w2 _ hown hg2 (by decide); have HZ3 := Lib.hid zz3; clear zz3)
        obtain ⟨j1, j2, j3, j4, j5⟩ := HZ3.out
        refine ⟨by rw [hsz]; exact HK1.out.trans j1, ⟨j2.1.trans HP1.out.1, j2.2.1.trans HP1.out.2.1, fun b hb => (j2.2.2 b hb).trans (HP1.out.2.2 b hb)⟩, fun y hy => ?_, j3, j4, j5⟩
        rcases List.mem_append.1 hy with h | h
        · exact H1.out y h
        · obtain rfl := List.mem_singleton.1 h
          exact HT.out
      · have hT : tyOk B n x = false := by simpa using hT
        have hx2 : x < 4 * B.length := hx3
        have HT := Lib.hid hT
        rw [hT]
        clear hT hr
        gi_wp2
        refine ⟨(KeepsOthers.setCell _ _ _).from _, rfl, ?_, ?_, h4.set _ _ (fun _ => .inr rfl)⟩
        · unfold tysB
          rw [Bool.eq_false_iff]
          intro hall
          have := List.all_eq_true.1 hall x (List.mem_range.2 hx2)
          rw [HT.out] at this; cases this
        · have := blk_set h3 0 (.bool false)
          simp only [List.setIfInBounds_toArray, List.set_cons_zero] at this
          exact this
    case done =>
      rintro D ys W hD rfl ⟨h1, ⟨o, ho, hrow⟩, h3, h4⟩ hK
      have zo := blk_cell ho 0
      have zb := h3.cell
      simp only [List.getElem?_toArray, List.getElem?_cons_zero] at zo
      rw [List.length_range] at hrow
      obtain ⟨A2, c2, rfl⟩ := own_slice hrow
      have hcap := own_cap hrow
      have hall : tysB B n = true := List.all_eq_true.2 (fun y hy => h1 y hy)
      clear h1
      by_cases her : er = 0
      · subst her
        have hB := HE.out rfl
        obtain rfl : ok = true := by rw [← hok]; rfl
        have hn1 : n ≤ 4 * B.length := by omega
        have hn2 : (n : Int) ≤ c2 := by omega
        have hi : (if 0 = 0 ∧ tysB B n = true then (true, (tys B).take n, k1 + k2) else ((false, [], k1 + k2) : Bool × List Int × Nat)) = (true, (tys B).take n, k1 + k2) := if_pos ⟨rfl, hall⟩
        have HI := Lib.hid hi
        clear hi
        clear hB
        gi_wp2
        refine ⟨by simp, .inl ⟨_, _, rfl, run_takeDeferred hK, ?_⟩⟩
        refine ⟨_, results_tmp2 rfl _ _ _, ?_⟩
        obtain ⟨f1, f2⟩ := types_fin (q := p + (k1 + k2)) XF XR h4 hgl hvb hsz hle hD (by omega) (.deferred none)
        refine ⟨_, rfl, ?_, f1, f2⟩
        have hr := ownsRow_putObj (own_take (own_less hrow (base := w.heap.size) (by omega)) hn1) (.deferred none) hK rfl
        rw [Nat.mul_one, nums_take] at hr
        have e : min n (tys B).length = n := by unfold tys; simp; omega
        rw [e]
        exact hr
      · obtain rfl : ok = false := by rw [← hok]; simp; omega
        have hi : (if er = 0 ∧ tysB B n = true then (true, (tys B).take n, k1 + k2) else ((false, [], k1 + k2) : Bool × List Int × Nat)) = (false, [], k1 + k2) := if_neg (fun h => her h.1)
        have HI := Lib.hid hi
        clear hi
        clear hall
        gi_wp2
        rw [Exit.noGoto_ret]
        refine ⟨by simp, .inl ⟨_, _, rfl, run_takeDeferred hK, ?_⟩⟩
        refine ⟨_, results_tmp2 rfl _ _ _, ?_⟩
        rw [HI.out]
        exact ⟨_, rfl, World.ownsRow_nil _ _ _ _, types_fin (q := p + (k1 + k2)) XF XR h4 hgl hvb hsz hle hD (by omega) (.deferred none)⟩
    case stop =>
      rintro D cd pre W hD _ ⟨rfl, h2, h3, h4⟩ hK
      have zb := h3.cell
      have hi : (if er = 0 ∧ tysB B n = true then (true, (tys B).take n, k1 + k2) else ((false, [], k1 + k2) : Bool × List Int × Nat)) = (false, [], k1 + k2) := if_neg (fun h => by rw [h2] at h; cases h.2)
      have HI := Lib.hid hi
      clear hi
      clear h2
      gi_wp2
      rw [Exit.noGoto_ret]
      refine ⟨by simp, .inl ⟨_, _, rfl, run_takeDeferred hK, ?_⟩⟩
      refine ⟨_, results_tmp2 rfl _ _ _, ?_⟩
      rw [HI.out]
      exact ⟨_, rfl, World.ownsRow_nil _ _ _ _, types_fin (q := p + (k1 + k2)) XF XR h4 hgl hvb hsz hle hD (by omega) (.deferred none)⟩
end Go.Proofs.Ytacmajlbaenjfaa
