/- Calls on a heap, as plain data: what stays so. -/
import Derived.Test.YtnomjjhocblkkaaKa
namespace Go.Proofs.Ytnomjjhocblkkaa
open Go.RowKit Go.Shelf Go.Proofs.YtnomjjhocblkkaaW.PrintWords Go.Proofs.YtnomjjhocblkkaaW.PrintLast Go.Proofs.YtnomjjhocblkkaaW.PrintMore
open Go.Proofs.Ytnomjjhocblkkaa.PHeapSound

theorem rdL1_in {sh : List (List Int)} {n : Int} (h0 : 0 ≤ n) (h1 : n < sh.length) : rd_L1 sh n ∈ sh := by
  unfold rd_L1
  rw [List.getD_eq_getElem?_getD, List.getElem?_eq_getElem (by omega)]
  exact List.getElem_mem _

theorem makeC_zero {H : HM} {n : Int} (h : makeC H n = 0) : 0 ≤ n ∧ n < H.sh.length ∧ (rd_L1 H.sh n).length ≤ H.quota - H.used := by
  unfold makeC at h
  split at h
  · cases h
  · split at h
    · cases h
    · omega

theorem make_fit {H : HM} (hf : HFit H) (n : Int) (hl : H.objs.length < 1000000) : HFit (makeH H n) := by
  unfold makeH
  split
  · rename_i h
    obtain ⟨h0, h1, h2⟩ := makeC_zero h
    refine ⟨fun o ho => ?_, by simp; omega, hf.small, hf.row, hf.quota, ?_⟩
    · rcases List.mem_append.1 ho with ho | ho
      · exact hf.objs o ho
      · obtain rfl : o = n := by simpa using ho
        exact ⟨h0, h1⟩
    · have := hf.used
      exact ⟨by show 0 ≤ H.used + ((rd_L1 H.sh n).length : Int); omega, by show H.used + ((rd_L1 H.sh n).length : Int) ≤ H.quota; omega⟩
  · exact hf
theorem make_sh (H : HM) (n : Int) : (makeH H n).sh = H.sh := by unfold makeH; split <;> rfl
theorem make_quota (H : HM) (n : Int) : (makeH H n).quota = H.quota := by unfold makeH; split <;> rfl
theorem make_few (H : HM) (n : Int) : (makeH H n).objs.length ≤ H.objs.length + 1 := by unfold makeH; split <;> simp
theorem make_cs (H : HM) (n : Int) : (makeH H n).cs = H.cs := by unfold makeH; split <;> rfl

theorem set_sh (H : HM) (t n i vt vv : Int) : (setH H t n i vt vv).sh = H.sh := by unfold setH; split <;> rfl
theorem set_quota (H : HM) (t n i vt vv : Int) : (setH H t n i vt vv).quota = H.quota := by unfold setH; split <;> rfl
theorem set_used (H : HM) (t n i vt vv : Int) : (setH H t n i vt vv).used = H.used := by unfold setH; split <;> rfl
theorem set_objs (H : HM) (t n i vt vv : Int) : (setH H t n i vt vv).objs = H.objs := by unfold setH; split <;> rfl
theorem set_fit {H : HM} (hf : HFit H) (t n i vt vv : Int) : HFit (setH H t n i vt vv) := by
  refine ⟨?_, ?_, ?_, ?_, ?_, ?_⟩
  · rw [set_objs, set_sh]; exact hf.objs
  · rw [set_objs]; exact hf.few
  · rw [set_sh]; exact hf.small
  · rw [set_sh]; exact hf.row
  · rw [set_quota]; exact hf.quota
  · rw [set_used, set_quota]; exact hf.used

theorem new_fit {sh : List (List Int)} {q : Int} (h : newOk sh q = true) : HFit ⟨sh, q, 0, [], []⟩ := by
  obtain ⟨⟨⟨h1, h2⟩, h3⟩, ha⟩ : ((0 ≤ q ∧ q ≤ 1048576) ∧ sh.length ≤ 64) ∧ sh.all shapeOk = true := by
    unfold newOk at h
    simpa using h
  refine ⟨by simp, by simp, h3, fun s hs => ?_, ⟨h1, h2⟩, ⟨Int.le_refl _, h1⟩⟩
  have hok := List.all_eq_true.1 ha s hs
  obtain ⟨⟨n1, n2⟩, _⟩ : ((1 ≤ s.length) ∧ s.length ≤ 16) ∧ _ := by unfold shapeOk at hok; simpa using hok
  exact n2

/-- What a round of calls knows of the heap. -/
structure HGood (sh : List (List Int)) (q : Int) (k : Nat) (H : HM) : Prop where
  fit : HFit H
  sh : H.sh = sh
  quota : H.quota = q
  few : H.objs.length ≤ k
theorem HGood.make {sh : List (List Int)} {q : Int} {k : Nat} {H : HM} (h : HGood sh q k H) (n : Int) (hk : k < 150) : HGood sh q (k + 1) (makeH H n) :=
  ⟨make_fit h.fit n (by have := h.few; omega), (make_sh H n).trans h.sh, (make_quota H n).trans h.quota, Nat.le_trans (make_few H n) (by have := h.few; omega)⟩
theorem HGood.set {sh : List (List Int)} {q : Int} {k : Nat} {H : HM} (h : HGood sh q k H) (t n i vt vv : Int) : HGood sh q k (setH H t n i vt vv) :=
  ⟨set_fit h.fit t n i vt vv, (set_sh H t n i vt vv).trans h.sh, (set_quota H t n i vt vv).trans h.quota, by rw [set_objs]; exact h.few⟩
theorem HGood.mono {sh : List (List Int)} {q : Int} {k l : Nat} {H : HM} (h : HGood sh q k H) (hl : k ≤ l) : HGood sh q l H := ⟨h.fit, h.sh, h.quota, Nat.le_trans h.few hl⟩
theorem new_good {sh : List (List Int)} {q : Int} (h : newOk sh q = true) : HGood sh q 0 ⟨sh, q, 0, [], []⟩ := ⟨new_fit h, rfl, rfl, Nat.le_refl _⟩

theorem tooGreat_no {sh : List (List Int)} {l : List S34} (h : tooGreat sh l = false) : l.length ≤ 150 := by
  unfold tooGreat at h
  simp at h
  exact h.2

theorem HOwn.lower {a b : Nat} {W : World} {g m : Nat} {H : HM} {R : Nat → Prop} (h : HOwn b W g m H R) (hb : a ≤ b) : HOwn a W g m H R := ⟨h.ex, h.ng, h.nm, h.lt, Nat.le_trans hb h.lo.1, Nat.le_trans hb h.lo.2⟩
theorem below_g {b : Nat} {w W W' : World} {g m : Nat} {H : HM} {R : Nat → Prop} (hW : Below b w W) (hs : b ≤ W.heap.size) (ho : HOwn b W g m H R) (hF : Fr (fun k => k = g) W W') : Below b w W' :=
  hW.trans (hF.below hs (fun i hi e => absurd ho.lo.1 (by rw [← e]; exact Nat.not_le.2 hi)))
theorem below_m {b : Nat} {w W W' : World} {g m : Nat} {H : HM} {R : Nat → Prop} (hW : Below b w W) (hs : b ≤ W.heap.size) (ho : HOwn b W g m H R) (hF : Fr (fun k => k = m) W W') : Below b w W' :=
  hW.trans (hF.below hs (fun i hi e => absurd ho.lo.2 (by rw [← e]; exact Nat.not_le.2 hi)))

theorem ready_zero {H : HM} {n : Int} (h0 : 0 ≤ n) (h1 : n ≤ H.objs.length) : readyC H 2 n = 0 := by
  unfold readyC heldB okV
  rw [if_pos]
  simp
  omega
theorem held_zero {H : HM} {t : Int} (h : cellT t = true) : heldB H t 0 = true := by
  unfold cellT at h
  unfold heldB okV
  simp at h ⊢
  omega

/-- Get of an object's cell, or of nil's: the code is what is wrong. -/
theorem Get_code {base : Nat} {w : World} {g m : Nat} {H : HM} {R : Nat → Prop} (h : HOwn base w g m H R) (hf : HFit H) (n i t : Int) (h0 : 0 ≤ n) (h1 : n ≤ H.objs.length) (ht : cellT t = true) :
    Calls Try.prog 15 #[.pointer (some ⟨g, 0, none⟩), .agg #[.int .i64 2, .int .i64 n], .int .i64 i, .int .i64 t] w fun e w' => ∃ a b : Int, e = .returned (.tuple #[.agg #[.int .i64 a, .int .i64 b], .int .i64 (wrongC H n i t), .int .i64 0]) ∧ Below w.heap.size w w' := by
  refine (Get_any h hf 2 n i t).mono fun e w' ⟨he, hb⟩ => ?_
  have hr : ∃ p, getR H 2 n i t = (p, wrongC H n i t, 0) := by
    unfold getR
    rw [if_pos (ready_zero h0 h1), if_pos ht]
    by_cases hw : wrongC H n i t = 0
    · rw [if_pos hw, hw]; exact ⟨_, rfl⟩
    · rw [if_neg hw]; exact ⟨_, rfl⟩
  obtain ⟨⟨a, b⟩, hp⟩ := hr
  rw [hp] at he
  exact ⟨a, b, he, hb⟩
theorem Get_type {base : Nat} {w : World} {g m : Nat} {H : HM} {R : Nat → Prop} (h : HOwn base w g m H R) (hf : HFit H) (n i t : Int) (ht : cellT t = false) :
    Calls Try.prog 15 #[.pointer (some ⟨g, 0, none⟩), .agg #[.int .i64 2, .int .i64 n], .int .i64 i, .int .i64 t] w fun e w' => e = .returned (.tuple #[.agg #[.int .i64 0, .int .i64 0], .int .i64 0, .int .i64 150]) ∧ Below w.heap.size w w' := by
  have h2 := Get_any h hf 2 n i t
  have hr : getR H 2 n i t = ((0, 0), 0, 150) := by
    unfold getR
    split
    · rw [ht]; rfl
    · rfl
  rw [hr] at h2
  exact h2
theorem Set_code {base : Nat} {w : World} {g m : Nat} {H : HM} {R : Nat → Prop} (h : HOwn base w g m H R) (hf : HFit H) (n i t : Int) (h0 : 0 ≤ n) (h1 : n ≤ H.objs.length) (ht : cellT t = true) :
    Calls Try.prog 13 #[.pointer (some ⟨g, 0, none⟩), .agg #[.int .i64 2, .int .i64 n], .int .i64 i, .agg #[.int .i64 t, .int .i64 0]] w fun e w' => e = .returned (.tuple #[.int .i64 (wrongC H n i t), .int .i64 0]) ∧ HOwn base w' g m (setH H 2 n i t 0) R ∧ Fr (fun k => k = m) w w' := by
  have h2 := Set_any h hf 2 n i t 0
  have hr : setR H 2 n i t 0 = (wrongC H n i t, 0) := by
    unfold setR
    rw [if_pos (ready_zero h0 h1), if_pos (held_zero ht)]
  rw [hr] at h2
  exact h2
theorem Shape_at {base : Nat} {w : World} {g m : Nat} {H : HM} {R : Nat → Prop} (h : HOwn base w g m H R) (hf : HFit H) (n : Int) (h0 : 1 ≤ n) (h1 : n ≤ H.objs.length) :
    Calls Try.prog 18 #[.pointer (some ⟨g, 0, none⟩), .agg #[.int .i64 2, .int .i64 n]] w fun e w' => e = .returned (.tuple #[.int .i64 (rd H.objs (n - 1)), .int .i64 0]) ∧ Below w.heap.size w w' := by
  have h2 := Shape_any h hf.few 2 n
  have ho : objC H 2 n = 0 := by
    unfold objC
    rw [if_pos (ready_zero (by omega) h1), if_neg (by omega)]
  have hr : shapeC H 2 n = rd H.objs (n - 1) := by unfold shapeC; rw [if_pos ho]
  rw [hr, ho] at h2
  exact h2

theorem wrong_nil (H : HM) (i t : Int) : wrongC H 0 i t = 1 := by simp [wrongC, trB]
theorem wrong_low (H : HM) {n i : Int} (t : Int) (hn : 1 ≤ n) (hi : i < 0) : wrongC H n i t = 3 := by
  have : ¬ n = 0 := by omega
  simp [wrongC, trB, this, hi]
theorem wrong_high (H : HM) {n i : Int} (t : Int) (hn : 1 ≤ n) (hi : ((rowOf H n).length : Int) ≤ i) : wrongC H n i t = 3 := by
  have : ¬ n = 0 := by omega
  simp [wrongC, trB, this, hi]
theorem wrong_type (H : HM) {n i t : Int} (hn : 1 ≤ n) (h0 : 0 ≤ i) (h1 : i < (rowOf H n).length) (ht : rd (rowOf H n) i ≠ t) : wrongC H n i t = 5 := by
  have : ¬ n = 0 := by omega
  have h2 : ¬ i < 0 := by omega
  have h3 : ¬ ((rowOf H n).length : Int) ≤ i := by omega
  simp [wrongC, trB, this, h2, h3, ht]
theorem wrong_not (H : HM) {n i t : Int} (hn : 1 ≤ n) (h0 : 0 ≤ i) (h1 : i < (rowOf H n).length) (ht : rd (rowOf H n) i = t) : wrongC H n i t = 0 := by
  have : ¬ n = 0 := by omega
  have h2 : ¬ i < 0 := by omega
  have h3 : ¬ ((rowOf H n).length : Int) ≤ i := by omega
  simp [wrongC, trB, this, h2, h3, ht]
end Go.Proofs.Ytnomjjhocblkkaa
