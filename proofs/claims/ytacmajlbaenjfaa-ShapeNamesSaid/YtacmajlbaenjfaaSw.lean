/- ReadSignature: the walk. -/
import Derived.Test.YtacmajlbaenjfaaSv
import Derived.Lib.QuoteLoop
namespace Go.Proofs.Ytacmajlbaenjfaa
open Go.RowKit Go.Shelf Go.Proofs.YtacmajlbaenjfaaW.PrintWords Go.Proofs.YtacmajlbaenjfaaW.PrintLast Go.Proofs.YtacmajlbaenjfaaW.PrintMore

theorem decode_fits (s : ByteArray) (k : Nat) (h : k < s.size) : k + (Utf8.decode s k).2 ≤ s.size := by
  rw [Lib.decode_at]
  have := Lib.decodeN_width_le (s.size - k) (s.get! k).toNat (s.get! (k + 1)).toNat (s.get! (k + 2)).toNat (s.get! (k + 3)).toNat (by omega)
  omega
/-- The memory of ReadSignature's loop: the iterator, the result, both builders. -/
structure RB (B : Nat) (s : ByteArray) (W : World) (k : Nat) (at_ : Bool) (La Lb : List UInt8) : Prop where
  iter : W.heap[B + 3]? = some (.stringIter s k)
  res : W.heap[B]? = some (.cells #[.slice none 0 0, .slice none 0 0] 26 (0, 0))
  rows : ∃ v1, BIs W (B + 1) (B + 4) v1 (Lib.byteCells La) ∧ (La = [] → v1 = .slice none 0 0) ∧
    (at_ = false → Lb = [] ∧ W.heap[B + 2]? = some (.cells #[.pointer none, .slice none 0 0] 95 (0, 0))) ∧
    (at_ = true → ∃ v2 b2, BIs W (B + 2) b2 v2 (Lib.byteCells Lb) ∧ (Lb = [] → v2 = .slice none 0 0) ∧ B + 4 ≤ b2 ∧ b2 ≤ W.heap.size ∧ ∀ i, v1.ownBlock = some i → i < b2)
theorem RB.move {B : Nat} {s : ByteArray} {W : World} {k : Nat} {at_ : Bool} {La Lb : List UInt8} (h : RB B s W k at_ La Lb) (k2 : Nat) : RB B s (W.iterAt (B + 3) s k2) k2 at_ La Lb := by
  obtain ⟨hi, hr, v1, h1, h1n, hf, ht⟩ := h
  have hF := fr_iterAt W (B + 3) s k2
  refine ⟨Lib.iterAt_heap W (B + 3) s k k2 hi, (hF.block B (blk_lt hr) (by omega)).trans hr, v1, h1.fr hF (by omega) (fun i e hi2 => h1.ne hi (fun _ _ e => by cases e) (by rw [e, hi2])), h1n, fun ha => ?_, fun ha => ?_⟩
  · obtain ⟨g1, g2⟩ := hf ha
    exact ⟨g1, (hF.block (B + 2) (blk_lt g2) (by omega)).trans g2⟩
  · obtain ⟨v2, b2, g1, g2, g3, g4, g5⟩ := ht ha
    exact ⟨v2, b2, g1.fr hF (by omega) (fun i e hi2 => g1.ne hi (fun _ _ e => by cases e) (by rw [e, hi2])), g2, g3, Nat.le_trans g4 hF.size, g5⟩
theorem RB.switch {B : Nat} {s : ByteArray} {W : World} {k : Nat} {La : List UInt8} (h : RB B s W k false La []) : RB B s W k true La [] := by
  obtain ⟨hi, hr, v1, h1, h1n, hf, ht⟩ := h
  obtain ⟨g1, g2⟩ := hf rfl
  exact ⟨hi, hr, v1, h1, h1n, fun e => (by cases e), fun _ => ⟨.slice none 0 0, W.heap.size, .inl ⟨g2, World.ownsRowF_nil _ _ _ _⟩, fun _ => rfl, by have := blk_lt hi; omega, Nat.le_refl _, fun i hi => h1.hi i hi⟩⟩
theorem enc_ne {l : List UInt8} {r : Int} (e : l ++ Lib.encodeRune r = []) : False := by
  have h := (Lib.runeCells_le r).1
  rw [Lib.runeCells_length] at h
  have h2 := congrArg List.length e
  rw [List.length_append, List.length_nil] at h2
  omega
theorem rune1 {B : Nat} {s : ByteArray} {W : World} {k : Nat} {La : List UInt8} (h : RB B s W k false La []) (r : Int) (hr0 : -2147483648 ≤ r) (hr1 : r ≤ 2147483647) (hl : La.length ≤ 1000000) :
    Calls Try.prog 58 #[.pointer (some ⟨B + 1, 0, none⟩), .int .i32 r] W fun e w' => ∃ r', e = .returned r' ∧ RB B s w' k false (La ++ Lib.encodeRune r) [] ∧ Fr (fun i => B ≤ i) W w' := by
  obtain ⟨hi, hr, v1, h1, h1n, hf, _⟩ := h
  obtain ⟨_, g2⟩ := hf rfl
  have hsz := blk_lt hi
  refine (WriteRune58_any W (B + 1) (B + 4) v1 (Lib.byteCells La) r hr0 hr1 h1 (by rw [Lib.byteCells_length]; omega) (by omega)).mono ?_
  rintro e w' ⟨r', v', rfl, hb, hF⟩
  have hlo := fun i (e : v1.ownBlock = some i) => h1.lo i e
  have ne : ∀ i, i < B + 4 → i ≠ B + 1 → ¬ (i = B + 1 ∨ v1.ownBlock = some i) := fun i hi hn h => h.elim hn (fun e => by have := hlo i e; omega)
  refine ⟨r', rfl, ⟨(hF.block _ hsz (ne _ (by omega) (by omega))).trans hi, (hF.block _ (blk_lt hr) (ne _ (by omega) (by omega))).trans hr, v', .inr ?_, fun e => (enc_ne e).elim, fun _ => ⟨rfl, (hF.block _ (blk_lt g2) (ne _ (by omega) (by omega))).trans g2⟩, fun e => by cases e⟩, ?_⟩
  · rw [Lib.byteCells_append, Lib.byteCells_encodeRune]; exact hb
  · exact (Fr.refl _ _).trans hF (fun i _ h => h.elim (fun e => by omega) (fun e => by have := hlo i e; omega))
theorem rune2 {B : Nat} {s : ByteArray} {W : World} {k : Nat} {La Lb : List UInt8} (h : RB B s W k true La Lb) (r : Int) (hr0 : -2147483648 ≤ r) (hr1 : r ≤ 2147483647) (hl : Lb.length ≤ 1000000) :
    Calls Try.prog 58 #[.pointer (some ⟨B + 2, 0, none⟩), .int .i32 r] W fun e w' => ∃ r', e = .returned r' ∧ RB B s w' k true La (Lb ++ Lib.encodeRune r) ∧ Fr (fun i => B ≤ i) W w' := by
  obtain ⟨hi, hr, v1, h1, h1n, _, ht⟩ := h
  obtain ⟨v2, b2, g1, g2, g3, g4, g5⟩ := ht rfl
  have hsz := blk_lt hi
  refine (WriteRune58_any W (B + 2) b2 v2 (Lib.byteCells Lb) r hr0 hr1 g1 (by rw [Lib.byteCells_length]; omega) g4).mono ?_
  rintro e w' ⟨r', v', rfl, hb, hF⟩
  have hlo := fun i (e : v2.ownBlock = some i) => g1.lo i e
  have ne : ∀ i, i < b2 → i ≠ B + 2 → ¬ (i = B + 2 ∨ v2.ownBlock = some i) := fun i hi hn h => h.elim hn (fun e => by have := hlo i e; omega)
  refine ⟨r', rfl, ⟨(hF.block _ hsz (ne _ (by omega) (by omega))).trans hi, (hF.block _ (blk_lt hr) (ne _ (by omega) (by omega))).trans hr, v1, h1.fr hF (ne _ (by omega) (by omega)) (fun i e => ne i (g5 i e) (fun e2 => by have := h1.lo i e; omega)), h1n, fun e => (by cases e), fun _ => ⟨v', b2, .inr ?_, fun e => (enc_ne e).elim, g3, Nat.le_trans g4 hF.size, g5⟩⟩, ?_⟩
  · rw [Lib.byteCells_append, Lib.byteCells_encodeRune]; exact hb
  · exact (Fr.refl _ _).trans hF (fun i _ h => h.elim (fun e => by omega) (fun e => by have := hlo i e; omega))
theorem RB.other {B : Nat} {s : ByteArray} {W : World} {k : Nat} {La Lb : List UInt8} (h : RB B s W k true La Lb) : (binOp .eql 93 (.pointer (some ⟨B + 2, 0, none⟩)) (.pointer (some ⟨B + 1, 0, none⟩))).run Try.prog W = .ok (.bool false) W := by
  obtain ⟨_, _, v1, h1, _, _, ht⟩ := h
  obtain ⟨v2, b2, g1, _⟩ := ht rfl
  obtain ⟨p1, e1⟩ : ∃ p, W.heap[B + 1]? = some (.cells #[p, v1] 95 (0, 0)) := h1.elim (fun h => ⟨_, h.1⟩) (fun h => ⟨_, h.1⟩)
  obtain ⟨p2, e2⟩ : ∃ p, W.heap[B + 2]? = some (.cells #[p, v2] 95 (0, 0)) := g1.elim (fun h => ⟨_, h.1⟩) (fun h => ⟨_, h.1⟩)
  obtain ⟨j, hj, hsz⟩ : ∃ j, Try.prog.info? 95 = some j ∧ j.size ≠ 0 := by
    have : (Try.prog.info? 95).map (fun i => decide (i.size ≠ 0)) = some true := by kernel_rfl
    obtain ⟨j, hj, h⟩ := Option.map_eq_some_iff.1 this
    exact ⟨j, hj, of_decide_eq_true h⟩
  exact run_eql_ptr_other W Try.underlying93 hj hsz (by simp) e2 e1
theorem ptr_same (W : World) (a : Addr) : (binOp .eql 93 (.pointer (some a)) (.pointer (some a))).run Try.prog W = .ok (.bool true) W := by
  obtain ⟨j, hj⟩ : ∃ j, Try.prog.info? 95 = some j := by
    have : (Try.prog.info? 95).map (fun _ => true) = some true := by kernel_rfl
    obtain ⟨j, hj, _⟩ := Option.map_eq_some_iff.1 this
    exact ⟨j, hj⟩
  exact run_eql_ptr_same W a Try.underlying93 hj

/-- Behind the loop: both builders, the result; then the blocks alone. -/
structure RF (B : Nat) (W : World) : Prop where
  res : W.heap[B]? = some (.cells #[.slice none 0 0, .slice none 0 0] 26 (0, 0))
  one : ∃ cs, W.heap[B + 1]? = some (.cells cs 95 (0, 0))
  two : ∃ cs, W.heap[B + 2]? = some (.cells cs 95 (0, 0))
theorem RF.fr {S : Nat → Prop} {B : Nat} {W W' : World} (h : RF B W) (hF : Fr S W W') (hS : ∀ i, i < B + 4 → ¬ S i) : RF B W' := by
  obtain ⟨h1, ⟨c1, h2⟩, ⟨c2, h3⟩⟩ := h
  exact ⟨(hF.block _ (blk_lt h1) (hS _ (by omega))).trans h1, ⟨c1, (hF.block _ (blk_lt h2) (hS _ (by omega))).trans h2⟩, ⟨c2, (hF.block _ (blk_lt h3) (hS _ (by omega))).trans h3⟩⟩
theorem RF.below {B : Nat} {W W' : World} (h : RF B W) (hb : Below W.heap.size W W') : RF B W' := h.fr (S := fun _ => False) (Fr.of_below hb) (fun _ _ e => e)
theorem RF.other {B : Nat} {W : World} (h : RF B W) : (binOp .eql 93 (.pointer (some ⟨B + 2, 0, none⟩)) (.pointer (some ⟨B + 1, 0, none⟩))).run Try.prog W = .ok (.bool false) W := by
  obtain ⟨_, ⟨c1, e1⟩, ⟨c2, e2⟩⟩ := h
  obtain ⟨j, hj, hsz⟩ : ∃ j, Try.prog.info? 95 = some j ∧ j.size ≠ 0 := by
    have : (Try.prog.info? 95).map (fun i => decide (i.size ≠ 0)) = some true := by kernel_rfl
    obtain ⟨j, hj, h⟩ := Option.map_eq_some_iff.1 this
    exact ⟨j, hj, of_decide_eq_true h⟩
  exact run_eql_ptr_other W Try.underlying93 hj hsz (by simp) e2 e1
theorem BIs.blk {W : World} {b base : Nat} {v : Value} {bs : List Value} (h : BIs W b base v bs) : ∃ cs, W.heap[b]? = some (.cells cs 95 (0, 0)) := h.elim (fun h => ⟨_, h.1⟩) (fun h => ⟨_, h.1⟩)
structure RE (B : Nat) (W : World) (Lb : List UInt8) : Prop where
  rf : RF B W
  row : ∃ v2 b2, BIs W (B + 2) b2 v2 (Lib.byteCells Lb) ∧ (Lb = [] → v2 = .slice none 0 0) ∧ B + 4 ≤ b2
theorem RE.below {B : Nat} {W W' : World} {Lb : List UInt8} (h : RE B W Lb) (hb : Below W.heap.size W W') : RE B W' Lb := by
  obtain ⟨h1, v2, b2, h2, h3, h4⟩ := h
  exact ⟨h1.below hb, v2, b2, h2.below hb, h3, h4⟩
theorem str1 {B : Nat} {s : ByteArray} {W : World} {k : Nat} {at_ : Bool} {La Lb : List UInt8} (h : RB B s W k at_ La Lb) :
    Calls Try.prog 59 #[.pointer (some ⟨B + 1, 0, none⟩)] W fun e w' => e = .returned (.string ⟨La.toArray⟩) ∧ RE B w' Lb ∧ Fr (fun i => B ≤ i) W w' := by
  obtain ⟨_, hr, v1, h1, h1n, hf, ht⟩ := h
  refine (String59_any W (B + 1) (B + 4) v1 La h1 h1n).mono ?_
  rintro e w' ⟨rfl, hF⟩
  have hlo := fun i (e : v1.ownBlock = some i) => h1.lo i e
  have hS : ∀ i, i < B + 4 → ¬ v1.ownBlock = some i := fun i hi e => by have := hlo i e; omega
  refine ⟨rfl, ?_, (Fr.refl _ _).trans hF (fun i _ e => by have := hlo i e; omega)⟩
  cases at_
  · obtain ⟨rfl, g2⟩ := hf rfl
    have g3 : BIs W (B + 2) (B + 4) (.slice none 0 0) (Lib.byteCells []) := .inl ⟨g2, World.ownsRowF_nil _ _ _ _⟩
    exact ⟨RF.fr ⟨hr, h1.blk, ⟨_, g2⟩⟩ hF hS, _, _, g3.fr hF (hS _ (by omega)) (fun i e => by cases e), fun _ => rfl, Nat.le_refl _⟩
  · obtain ⟨v2, b2, g1, g2, g3, g4, g5⟩ := ht rfl
    exact ⟨RF.fr ⟨hr, h1.blk, g1.blk⟩ hF hS, v2, b2, g1.fr hF (hS _ (by omega)) (fun i e e2 => by have := g1.lo i e; have := g5 i e2; omega), g2, g3⟩
theorem str2 {B : Nat} {W : World} {Lb : List UInt8} (h : RE B W Lb) :
    Calls Try.prog 59 #[.pointer (some ⟨B + 2, 0, none⟩)] W fun e w' => e = .returned (.string ⟨Lb.toArray⟩) ∧ RF B w' ∧ Fr (fun i => B + 4 ≤ i ∧ ∃ cs fz, W.heap[i]? = some (.cells cs 5 fz)) W w' := by
  obtain ⟨h1, v2, b2, h2, h3, h4⟩ := h
  refine (String59_any W (B + 2) b2 v2 Lb h2 h3).mono ?_
  rintro e w' ⟨rfl, hF⟩
  have hlo := fun i (e : v2.ownBlock = some i) => h2.lo i e
  refine ⟨rfl, h1.fr hF (fun i hi e => by have := hlo i e; omega), (Fr.refl _ _).trans hF (fun i _ e => ⟨by have := hlo i e; omega, ?_⟩)⟩
  have key : W.ownsRowF b2 5 1 v2 (Lib.byteCells Lb).length (Lib.byteCells Lb) → ∃ cs fz, W.heap[i]? = some (.cells cs 5 fz) := by
    rintro ⟨_, hn | ⟨g, cap, cur, fz, rfl, _, hg, _⟩⟩
    · rw [hn.1] at e; cases e
    · simp only [Value.ownBlock, Option.some.injEq] at e
      subst e
      exact ⟨_, _, hg⟩
  exact h2.elim (fun h => key h.2) (fun h => key h.2)
/-- A row of integers stays where rows of bytes alone turn. -/
theorem own_far {W W' : World} {base B : Nat} {v : Value} {xs : List Int} (h : W.ownsRow base 3 1 v xs.length (nums .i64 xs)) (hF : Fr (fun i => B ≤ i ∧ ∃ cs fz, W.heap[i]? = some (.cells cs 5 fz)) W W') : W'.ownsRow base 3 1 v xs.length (nums .i64 xs) :=
  own_fr h hF (fun b hb ⟨_, cs, fz, hg⟩ => by
    rcases h.2 with ⟨rfl, _⟩ | ⟨g', cap, cur, rfl, _, hh, _⟩
    · cases hb
    · simp only [Value.ownBlock, Option.some.injEq] at hb
      subst hb
      rw [hg] at hh
      cases hh)

set_option maxRecDepth 100000 in
set_option maxHeartbeats 8000000 in
theorem ReadSig34_any (w : World) (s : ByteArray) (hs : s.size ≤ 240) :
    Calls Try.prog 34 #[.string s] w fun e w' => ∃ u u2, e = .returned (.tuple #[.agg #[u, u2], .int .i64 (readG s.data.toList).2.2]) ∧
      w'.ownsRow w.heap.size 3 1 u (readG s.data.toList).1.length (nums .i64 (readG s.data.toList).1) ∧ w'.ownsRow w.heap.size 3 1 u2 (readG s.data.toList).2.1.length (nums .i64 (readG s.data.toList).2.1) ∧ Below w.heap.size w w' := by
  obtain ⟨RG, hRG⟩ : ∃ RG, readG s.data.toList = RG := ⟨_, rfl⟩
  rw [hRG]
  have HRG := Lib.hid hRG
  clear hRG
  have HS := Lib.hid hs
  have hwx : ∃ w0, (((w.alloc (.cells #[.slice none 0 0, .slice none 0 0] 26)).alloc (.cells #[.pointer none, .slice none 0 0] 95)).alloc (.cells #[.pointer none, .slice none 0 0] 95)).iter s 0 = w0 ∧ RB w.heap.size s w0 0 false [] [] ∧ Below w.heap.size w w0 := by
    have z0 := World.alloc_heap_new w (.cells #[.slice none 0 0, .slice none 0 0] 26)
    have b0 := below_alloc (Below.refl w.heap.size w) (.cells #[.slice none 0 0, .slice none 0 0] 26)
    have s1 : (w.alloc (.cells #[.slice none 0 0, .slice none 0 0] 26)).heap.size = w.heap.size + 1 := by simp
    generalize w.alloc (.cells #[.slice none 0 0, .slice none 0 0] 26) = w1 at *
    have z1 := World.alloc_heap_new w1 (.cells #[.pointer none, .slice none 0 0] 95)
    have b1 := below_alloc (Below.refl w1.heap.size w1) (.cells #[.pointer none, .slice none 0 0] 95)
    have s2 : (w1.alloc (.cells #[.pointer none, .slice none 0 0] 95)).heap.size = w1.heap.size + 1 := by simp
    generalize w1.alloc (.cells #[.pointer none, .slice none 0 0] 95) = w2 at *
    have z2 := World.alloc_heap_new w2 (.cells #[.pointer none, .slice none 0 0] 95)
    have b2 := below_alloc (Below.refl w2.heap.size w2) (.cells #[.pointer none, .slice none 0 0] 95)
    have s3 : (w2.alloc (.cells #[.pointer none, .slice none 0 0] 95)).heap.size = w2.heap.size + 1 := by simp
    generalize w2.alloc (.cells #[.pointer none, .slice none 0 0] 95) = w3 at *
    have z3 := World.iter_heap w3 s 0
    have b3 : Below w3.heap.size w3 (w3.iter s 0) := below_alloc (Below.refl _ _) _
    rw [s3, s2, s1] at z3
    rw [s2, s1] at z2
    rw [s1] at z1
    refine ⟨_, rfl, ⟨z3, ?_, .slice none 0 0, .inl ⟨?_, World.ownsRowF_nil _ _ _ _⟩, fun _ => rfl, fun _ => ⟨rfl, ?_⟩, fun e => (by cases e)⟩, below_then (below_then (below_then b0 b0.size b1) (below_then b0 b0.size b1).size b2) (below_then (below_then b0 b0.size b1) (below_then b0 b0.size b1).size b2).size b3⟩
    · exact (b3.block _ (by omega)).trans ((b2.block _ (by omega)).trans ((b1.block _ (by omega)).trans z0))
    · exact (b3.block _ (by omega)).trans ((b2.block _ (by omega)).trans z1)
    · exact (b3.block _ (by omega)).trans z2
  obtain ⟨w0, hw0, hRB0, hB0⟩ := hwx
  have HRB0 := Lib.hid hRB0
  have HB0 := Lib.hid hB0
  have HW0 := Lib.hid hw0
  clear hw0 hRB0 hB0 hs
  go_enter Try.func34, Try.ntmps34
  go_wp2
  rw [HW0.out, show w.heap.size + 1 + 1 + 1 = w.heap.size + 3 from rfl, show w.heap.size + 1 + 1 = w.heap.size + 2 from rfl]
  clear HW0
  go_loopw [6] (fun p wr => ∃ (k : Nat) (at_ : Bool) (La Lb : List UInt8), k ≤ s.size ∧ p = .pointer (some ⟨w.heap.size + (if at_ = true then 2 else 1), 0, none⟩) ∧ Aside0 (RB w.heap.size s wr k at_ La Lb) ∧ Aside0 (Heard s.data.toList k at_ La Lb) ∧ Aside0 (Below w.heap.size w wr)) (fun _ wr => s.size - wr.iterPos (w.heap.size + 3))
  case atStart => exact ⟨0, false, [], [], by omega, rfl, Aside0.mk HRB0.out, Aside0.mk (Heard.start _), Aside0.mk HB0.out⟩
  case round =>
    clear HRB0 HB0
    obtain ⟨k, at_, La, Lb, hk, rfl, HRB, HH, HB⟩ := hrel
    have hit := HRB.out.iter
    have HIT := Lib.hid hit
    by_cases hp : k < s.size
    · have hLa : La.length + Lb.length ≤ 1000 := by have := HH.out.1; have := HS.out; omega
      by_cases ha : (s[k]'hp).toNat < 128
      · have hnx : ∀ ty, (Instr.next (.pointer (some ⟨w.heap.size + 3, 0, none⟩)) true ty).run Try.prog wr = _ := fun ty => Lib.run_next_ascii_at wr (w.heap.size + 3) s k ty hit hp ha
        have HRB2 := Lib.hid (HRB.out.move (k + 1))
        have HB2 := Lib.hid (Lib.below_iterAt HB.out (k := w.heap.size + 3) (by omega) s (k + 1))
        have hlk : k < s.data.toList.length := by simpa using hp
        have hl : low (s.data.toList[k]'hlk) = true := by unfold low; exact decide_eq_true ha
        have hev := enc_low hl
        have hcc : (s.data.toList[k]'hlk) = s[k]'hp := rfl
        rw [hcc] at hev hl
        have hit2 := HRB2.out.iter
        generalize hW : wr.iterAt (w.heap.size + 3) s (k + 1) = W2 at *
        cases at_ with
        | false =>
          obtain ⟨v1, _, _, hf, _⟩ := HRB.out.rows
          obtain ⟨rfl, _⟩ := hf rfl
          by_cases hc : s[k]'hp = 62
          · have HH2 := Lib.hid (HH.out.arrow hlk hc)
            have hc62 : (((s[k]'hp).toNat : Nat) : Int) = 62 := by rw [hc]; rfl
            have hps := ptr_same W2 ⟨w.heap.size + 1, 0, none⟩
            have HSW := Lib.hid HRB2.out.switch
            rw [hc62] at hnx
            clear hit hit2 hW hl hev hcc hc hc62 ha
            simp only [Bool.false_eq_true, if_false]
            go_wp2
            go_roundw
            case rel => exact ⟨k + 1, true, La, [], by omega, rfl, Aside0.mk HSW.out, Aside0.mk HH2.out, Aside0.mk HB2.out⟩
            case measure => simp only [World.iterPos, HSW.out.iter, HIT.out]; omega
          · have HH2 := Lib.hid (HH.out.first hlk hl hc)
            have hr1 := rune1 HRB2.out (((s[k]'hp).toNat : Nat) : Int) (by omega) (by omega) (by omega)
            rw [hev] at hr1
            have HR1 := Lib.hid hr1
            obtain ⟨cb, hcb⟩ : ∃ cb, s[k]'hp = cb := ⟨_, rfl⟩
            have hc62 : ((((s[k]'hp).toNat : Nat) : Int) == 62) = false := by
              rw [beq_eq_false_iff_ne]
              intro e
              exact hc (UInt8.toNat_inj.1 (by show (s[k]'hp).toNat = 62; omega))
            rw [hcb] at hnx HR1 hc62
            have HCB := Lib.hid hcb
            generalize cb.toNat = cn at *
            clear hit hit2 hW hl hev hcc hc ha hr1 hcb
            simp only [Bool.false_eq_true, if_false]
            go_wp2_with (go_at_call 58; refine HR1.out.mono ?_; rintro e w3 ⟨r', rfl, hrb, hf⟩; have HRB3 := Lib.hid hrb; have HB3 := Lib.hid (HB2.out.trans (hf.below HB2.out.size (fun i hi h => absurd hi (Nat.not_lt.2 h)))); clear hrb hf)
            go_roundw
            case rel => exact ⟨k + 1, false, La ++ [cb], [], by omega, rfl, Aside0.mk HRB3.out, Aside0.mk (by have := HH2.out; rw [show s.data.toList[k]'hlk = cb from HCB.out] at this; exact this), Aside0.mk HB3.out⟩
            case measure => simp only [World.iterPos, HRB3.out.iter, HIT.out]; omega
        | true =>
          have HH2 := Lib.hid (HH.out.second hlk hl)
          have hr1 := rune2 HRB2.out (((s[k]'hp).toNat : Nat) : Int) (by omega) (by omega) (by omega)
          rw [hev] at hr1
          have hpo := HRB2.out.other
          obtain ⟨cb, hcb⟩ : ∃ cb, s[k]'hp = cb := ⟨_, rfl⟩
          rw [hcb] at hnx hr1
          have HR1 := Lib.hid hr1
          have HCB := Lib.hid hcb
          generalize cb.toNat = cn at *
          clear hit hit2 hW hl hev hcc ha hr1 hcb
          simp only [if_true]
          cases hc62 : ((cn : Int) == 62)
          all_goals
            go_wp2_with (go_at_call 58; refine HR1.out.mono ?_; rintro e w3 ⟨r', rfl, hrb, hf⟩; have HRB3 := Lib.hid hrb; have HB3 := Lib.hid (HB2.out.trans (hf.below HB2.out.size (fun i hi h => absurd hi (Nat.not_lt.2 h)))); clear hrb hf)
            go_roundw
            case rel => exact ⟨k + 1, true, La, Lb ++ [cb], by omega, rfl, Aside0.mk HRB3.out, Aside0.mk (by have := HH2.out; rw [show s.data.toList[k]'hlk = cb from HCB.out] at this; exact this), Aside0.mk HB3.out⟩
            case measure => simp only [World.iterPos, HRB3.out.iter, HIT.out]; omega
      · have ha' : 128 ≤ (s[k]'hp).toNat := by omega
        have hnx : ∀ ty, (Instr.next (.pointer (some ⟨w.heap.size + 3, 0, none⟩)) true ty).run Try.prog wr = _ := fun ty => Lib.run_next_any_at wr (w.heap.size + 3) s k ty hit hp
        obtain ⟨hc1, hc2⟩ := decode_high s k hp ha'
        have hc3 := decode_le s k
        have hfit := decode_fits s k hp
        obtain ⟨rr, hrr⟩ : ∃ rr, (Utf8.decode s k).1 = rr := ⟨_, rfl⟩
        obtain ⟨dd, hdd⟩ : ∃ dd, (Utf8.decode s k).2 = dd := ⟨_, rfl⟩
        rw [hrr, hdd] at hnx
        rw [hrr] at hc1 hc3
        rw [hdd] at hc2 hfit
        have hlk : k < s.data.toList.length := by simpa using hp
        have hal : s.data.toList.all low = false := all_low_not hlk (by unfold low; exact decide_eq_false (by show ¬ (s[k]'hp).toNat < 128; omega))
        have HRB2 := Lib.hid (HRB.out.move (k + dd))
        have HB2 := Lib.hid (Lib.below_iterAt HB.out (k := w.heap.size + 3) (by omega) s (k + dd))
        have hen := enc_high (r := (rr : Int)) (by omega)
        have hel := enc_len (rr : Int)
        have hit2 := HRB2.out.iter
        have hc62 : (((rr : Nat) : Int) == 62) = false := by rw [beq_eq_false_iff_ne]; omega
        generalize hW : wr.iterAt (w.heap.size + 3) s (k + dd) = W2 at *
        cases at_ with
        | false =>
          obtain ⟨v1, _, _, hf, _⟩ := HRB.out.rows
          obtain ⟨rfl, _⟩ := hf rfl
          have hr1 := rune1 HRB2.out (rr : Int) (by omega) (by omega) (by omega)
          have hh2 := HH.out.high (k2 := k + dd) (r1 := Lib.encodeRune (rr : Int)) (r2 := []) (by omega) hal (by rw [hen]; rfl) (by simp; omega)
          rw [List.append_nil] at hh2
          have HH2 := Lib.hid hh2
          have HR1 := Lib.hid hr1
          clear hit hit2 hW hr1 hrr hdd hal hen hel hc1 hc3 ha ha' hh2
          simp only [Bool.false_eq_true, if_false]
          go_wp2_with (go_at_call 58; refine HR1.out.mono ?_; rintro e w3 ⟨r', rfl, hrb, hf⟩; have HRB3 := Lib.hid hrb; have HB3 := Lib.hid (HB2.out.trans (hf.below HB2.out.size (fun i hi h => absurd hi (Nat.not_lt.2 h)))); clear hrb hf)
          go_roundw
          case rel => exact ⟨k + dd, false, _, [], hfit, rfl, Aside0.mk HRB3.out, Aside0.mk HH2.out, Aside0.mk HB3.out⟩
          case measure => simp only [World.iterPos, HRB3.out.iter, HIT.out]; omega
        | true =>
          have hr1 := rune2 HRB2.out (rr : Int) (by omega) (by omega) (by omega)
          have hh2 := HH.out.high (k2 := k + dd) (r1 := []) (r2 := Lib.encodeRune (rr : Int)) (by omega) hal (by rw [hen]; rfl) (by simp; omega)
          rw [List.append_nil] at hh2
          have HH2 := Lib.hid hh2
          have HR1 := Lib.hid hr1
          clear hit hit2 hW hr1 hrr hdd hal hen hel hc1 hc3 ha ha' hh2
          simp only [if_true]
          go_wp2_with (go_at_call 58; refine HR1.out.mono ?_; rintro e w3 ⟨r', rfl, hrb, hf⟩; have HRB3 := Lib.hid hrb; have HB3 := Lib.hid (HB2.out.trans (hf.below HB2.out.size (fun i hi h => absurd hi (Nat.not_lt.2 h)))); clear hrb hf)
          go_roundw
          case rel => exact ⟨k + dd, true, La, _, hfit, rfl, Aside0.mk HRB3.out, Aside0.mk HH2.out, Aside0.mk HB3.out⟩
          case measure => simp only [World.iterPos, HRB3.out.iter, HIT.out]; omega
    · have hnx : ∀ ty, (Instr.next (.pointer (some ⟨w.heap.size + 3, 0, none⟩)) true ty).run Try.prog wr = _ := fun ty => Lib.run_next_end_at wr (w.heap.size + 3) s k ty hit hp
      have hkl : k = s.data.toList.length := by simp; omega
      have hh := HH.out
      have hll := hh.1
      have hs240 := HS.out
      rw [hkl] at hh
      have hend := hh.end_
      rw [HRG.out] at hend
      have hT1 := fun W => Types48_any W ⟨La.toArray⟩ (by show La.toArray.size ≤ _; rw [List.size_toArray]; omega)
      have hT2 := fun W => Types48_any W ⟨Lb.toArray⟩ (by show Lb.toArray.size ≤ _; rw [List.size_toArray]; omega)
      have e1 : (⟨La.toArray⟩ : ByteArray).data.toList = La := rfl
      have e2 : (⟨Lb.toArray⟩ : ByteArray).data.toList = Lb := rfl
      rw [e1] at hT1
      rw [e2] at hT2
      have hl1 := typesT_len La (by omega)
      have hl2 := typesT_len Lb (by omega)
      generalize typesT La = TA at *
      generalize typesT Lb = TB at *
      obtain ⟨xs, r1⟩ := TA
      obtain ⟨ys, r2⟩ := TB
      simp only at hT1 hT2 hl1 hl2 hend
      have HT1 := Lib.hid hT1
      have HT2 := Lib.hid hT2
      have HCS := Lib.hid (fun (W : World) (A : Option Addr) (c : Nat) (B : Option Addr) (d : Nat) (hC : (Kd.int .i64).C W A xs.length xs) (hD : (Kd.int .i64).C W B ys.length ys) => CheckSig_any W A B c d xs ys hC hD hl1 hl2)
      clear hT1 hT2 hl1 hl2 e1 e2 hh hkl hll hit HRG HH hs240
      by_cases h1 : r1 = 0
      case neg =>
        rw [if_neg (fun h => h1 h.2.1)] at hend
        subst hend
        have h1' : ¬ r1 = 0 := h1
        clear h1
        cases at_ <;> simp only [Bool.false_eq_true, if_false, if_true]
        all_goals
          go_wp2_with (first | (go_at_call 59; (with_reducible refine (str1 HRB.out).mono ?_); rintro e w4 ⟨rfl, hre, hf⟩; have HRE4 := Lib.hid hre; have HB4 := Lib.hid (HB.out.trans (hf.below HB.out.size (fun i hi h => absurd hi (Nat.not_lt.2 h)))); clear hre hf) | (go_at_call 48; (with_reducible refine (HT1.out w4).mono ?_); rintro e w5 ⟨u1, rfl, hu, hb⟩; have HU5 := Lib.hid hu; have HRE5 := Lib.hid (HRE4.out.below hb); have HB5 := Lib.hid (below_then HB4.out HB4.out.size hb); clear hu hb) | (go_at_call 59; (with_reducible refine (str2 HRE5.out).mono ?_); rintro e w6 ⟨rfl, hre, hf⟩; have HRF6 := Lib.hid hre; have HB6 := Lib.hid (HB5.out.trans (hf.below HB5.out.size (fun i hi h => absurd hi (Nat.not_lt.2 (by omega))))); have HU6 := Lib.hid (own_far HU5.out hf); clear hre hf) | (go_at_call 48; (with_reducible refine (HT2.out w6).mono ?_); rintro e w7 ⟨u2, rfl, hu, hb⟩; have HV7 := Lib.hid (own_less hu HB6.out.size); have HU7 := Lib.hid (own_less (pw_own_below HU6.out hb) HB4.out.size); have HRF7 := Lib.hid (HRF6.out.below hb); have E := HRF7.out.res; have HE7 := Lib.hid E; have HB7 := Lib.hid (below_then HB6.out HB6.out.size hb); obtain ⟨A1, c1, rfl⟩ := own_slice HU7.out; obtain ⟨A2, c2, rfl⟩ := own_slice HV7.out; have a0 := blk_cell E 0; have a1 := blk_cell E 1; have a2 := blk_frozen E 0; have a3 := blk_frozen E 1; have hz : w.heap.size < w7.heap.size := blk_lt E; simp only [List.getElem?_toArray, List.getElem?_cons_zero, List.getElem?_cons_succ] at a0 a1; have hps := ptr_same (w7.alloc (.cells #[.slice A1 xs.length c1, .slice A2 ys.length c2] 26)) ⟨w.heap.size + 1, 0, none⟩; clear hu hb E))
          have F := blk_set HE7.out 0 (.slice none 0 0)
          have G := blk_set F 1 (.slice none 0 0)
          simp only [List.setIfInBounds_toArray, List.set_cons_zero, List.set_cons_succ] at G
          have hbs := (HB7.out.setCell (p := ⟨w.heap.size, 0, none⟩) (Nat.le_refl _) (.slice none 0 0)).setCell (p := ⟨w.heap.size, 1, none⟩) (Nat.le_refl _) (.slice none 0 0)
          generalize (w7.setCell ⟨w.heap.size, 0, none⟩ (.slice none 0 0)).setCell ⟨w.heap.size, 1, none⟩ (.slice none 0 0) = w8 at *
          have hba := below_alloc (Below.refl w8.heap.size w8) (.cells #[.slice A1 xs.length c1, .slice A2 ys.length c2] 26)
          have G2 := (hba.block _ (blk_lt G)).trans G
          have hb9 := below_then hbs hbs.size hba
          generalize w8.alloc (.cells #[.slice A1 xs.length c1, .slice A2 ys.length c2] 26) = w9 at *
          have y0 := blk_cell G2 0
          have y1 := blk_cell G2 1
          simp only [List.getElem?_toArray, List.getElem?_cons_zero, List.getElem?_cons_succ] at y0 y1
          exact bodyPost_ret (v := .tuple #[.agg #[.slice none 0 0, .slice none 0 0], .int .i64 61]) (by simp [results, Try.results34, go_sem, y0, y1]) rfl ⟨_, _, rfl, World.ownsRow_nil _ _ _ _, World.ownsRow_nil _ _ _ _, hb9⟩
      case pos =>
        subst h1
        by_cases h2 : r2 = 0
        case neg =>
          rw [if_neg (fun h => h2 h.2.2.1)] at hend
          subst hend
          have h2' : ¬ r2 = 0 := h2
          clear h2
          cases at_ <;> simp only [Bool.false_eq_true, if_false, if_true]
          all_goals
            go_wp2_with (first | (go_at_call 59; (with_reducible refine (str1 HRB.out).mono ?_); rintro e w4 ⟨rfl, hre, hf⟩; have HRE4 := Lib.hid hre; have HB4 := Lib.hid (HB.out.trans (hf.below HB.out.size (fun i hi h => absurd hi (Nat.not_lt.2 h)))); clear hre hf) | (go_at_call 48; (with_reducible refine (HT1.out w4).mono ?_); rintro e w5 ⟨u1, rfl, hu, hb⟩; have HU5 := Lib.hid hu; have HRE5 := Lib.hid (HRE4.out.below hb); have HB5 := Lib.hid (below_then HB4.out HB4.out.size hb); clear hu hb) | (go_at_call 59; (with_reducible refine (str2 HRE5.out).mono ?_); rintro e w6 ⟨rfl, hre, hf⟩; have HRF6 := Lib.hid hre; have HB6 := Lib.hid (HB5.out.trans (hf.below HB5.out.size (fun i hi h => absurd hi (Nat.not_lt.2 (by omega))))); have HU6 := Lib.hid (own_far HU5.out hf); clear hre hf) | (go_at_call 48; (with_reducible refine (HT2.out w6).mono ?_); rintro e w7 ⟨u2, rfl, hu, hb⟩; have HV7 := Lib.hid (own_less hu HB6.out.size); have HU7 := Lib.hid (own_less (pw_own_below HU6.out hb) HB4.out.size); have HRF7 := Lib.hid (HRF6.out.below hb); have E := HRF7.out.res; have HE7 := Lib.hid E; have HB7 := Lib.hid (below_then HB6.out HB6.out.size hb); obtain ⟨A1, c1, rfl⟩ := own_slice HU7.out; obtain ⟨A2, c2, rfl⟩ := own_slice HV7.out; have a0 := blk_cell E 0; have a1 := blk_cell E 1; have a2 := blk_frozen E 0; have a3 := blk_frozen E 1; have hz : w.heap.size < w7.heap.size := blk_lt E; simp only [List.getElem?_toArray, List.getElem?_cons_zero, List.getElem?_cons_succ] at a0 a1; have hps := ptr_same (w7.alloc (.cells #[.slice A1 xs.length c1, .slice A2 ys.length c2] 26)) ⟨w.heap.size + 1, 0, none⟩; clear hu hb E))
            have F := blk_set HE7.out 0 (.slice none 0 0)
            have G := blk_set F 1 (.slice none 0 0)
            simp only [List.setIfInBounds_toArray, List.set_cons_zero, List.set_cons_succ] at G
            have hbs := (HB7.out.setCell (p := ⟨w.heap.size, 0, none⟩) (Nat.le_refl _) (.slice none 0 0)).setCell (p := ⟨w.heap.size, 1, none⟩) (Nat.le_refl _) (.slice none 0 0)
            generalize (w7.setCell ⟨w.heap.size, 0, none⟩ (.slice none 0 0)).setCell ⟨w.heap.size, 1, none⟩ (.slice none 0 0) = w8 at *
            have hba := below_alloc (Below.refl w8.heap.size w8) (.cells #[.slice A1 xs.length c1, .slice A2 ys.length c2] 26)
            have G2 := (hba.block _ (blk_lt G)).trans G
            have hb9 := below_then hbs hbs.size hba
            generalize w8.alloc (.cells #[.slice A1 xs.length c1, .slice A2 ys.length c2] 26) = w9 at *
            have y0 := blk_cell G2 0
            have y1 := blk_cell G2 1
            simp only [List.getElem?_toArray, List.getElem?_cons_zero, List.getElem?_cons_succ] at y0 y1
            exact bodyPost_ret (v := .tuple #[.agg #[.slice none 0 0, .slice none 0 0], .int .i64 61]) (by simp [results, Try.results34, go_sem, y0, y1]) rfl ⟨_, _, rfl, World.ownsRow_nil _ _ _ _, World.ownsRow_nil _ _ _ _, hb9⟩
        case pos =>
          subst h2
          cases at_ with
          | false =>
            rw [if_neg (fun h => by cases h.1)] at hend
            subst hend
            simp only [Bool.false_eq_true, if_false]
            go_wp2_with (first | (go_at_call 59; (with_reducible refine (str1 HRB.out).mono ?_); rintro e w4 ⟨rfl, hre, hf⟩; have HRE4 := Lib.hid hre; have HB4 := Lib.hid (HB.out.trans (hf.below HB.out.size (fun i hi h => absurd hi (Nat.not_lt.2 h)))); clear hre hf) | (go_at_call 48; (with_reducible refine (HT1.out w4).mono ?_); rintro e w5 ⟨u1, rfl, hu, hb⟩; have HU5 := Lib.hid hu; have HRE5 := Lib.hid (HRE4.out.below hb); have HB5 := Lib.hid (below_then HB4.out HB4.out.size hb); clear hu hb) | (go_at_call 59; (with_reducible refine (str2 HRE5.out).mono ?_); rintro e w6 ⟨rfl, hre, hf⟩; have HRF6 := Lib.hid hre; have HB6 := Lib.hid (HB5.out.trans (hf.below HB5.out.size (fun i hi h => absurd hi (Nat.not_lt.2 (by omega))))); have HU6 := Lib.hid (own_far HU5.out hf); clear hre hf) | (go_at_call 48; (with_reducible refine (HT2.out w6).mono ?_); rintro e w7 ⟨u2, rfl, hu, hb⟩; have HV7 := Lib.hid (own_less hu HB6.out.size); have HU7 := Lib.hid (own_less (pw_own_below HU6.out hb) HB4.out.size); have HRF7 := Lib.hid (HRF6.out.below hb); have E := HRF7.out.res; have HE7 := Lib.hid E; have HB7 := Lib.hid (below_then HB6.out HB6.out.size hb); obtain ⟨A1, c1, rfl⟩ := own_slice HU7.out; obtain ⟨A2, c2, rfl⟩ := own_slice HV7.out; have a0 := blk_cell E 0; have a1 := blk_cell E 1; have a2 := blk_frozen E 0; have a3 := blk_frozen E 1; have hz : w.heap.size < w7.heap.size := blk_lt E; simp only [List.getElem?_toArray, List.getElem?_cons_zero, List.getElem?_cons_succ] at a0 a1; have hps := ptr_same (w7.alloc (.cells #[.slice A1 xs.length c1, .slice A2 ys.length c2] 26)) ⟨w.heap.size + 1, 0, none⟩; clear hu hb E))
            have F := blk_set HE7.out 0 (.slice none 0 0)
            have G := blk_set F 1 (.slice none 0 0)
            simp only [List.setIfInBounds_toArray, List.set_cons_zero, List.set_cons_succ] at G
            have hbs := (HB7.out.setCell (p := ⟨w.heap.size, 0, none⟩) (Nat.le_refl _) (.slice none 0 0)).setCell (p := ⟨w.heap.size, 1, none⟩) (Nat.le_refl _) (.slice none 0 0)
            generalize (w7.setCell ⟨w.heap.size, 0, none⟩ (.slice none 0 0)).setCell ⟨w.heap.size, 1, none⟩ (.slice none 0 0) = w8 at *
            have hba := below_alloc (Below.refl w8.heap.size w8) (.cells #[.slice A1 xs.length c1, .slice A2 ys.length c2] 26)
            have G2 := (hba.block _ (blk_lt G)).trans G
            have hb9 := below_then hbs hbs.size hba
            generalize w8.alloc (.cells #[.slice A1 xs.length c1, .slice A2 ys.length c2] 26) = w9 at *
            have y0 := blk_cell G2 0
            have y1 := blk_cell G2 1
            simp only [List.getElem?_toArray, List.getElem?_cons_zero, List.getElem?_cons_succ] at y0 y1
            exact bodyPost_ret (v := .tuple #[.agg #[.slice none 0 0, .slice none 0 0], .int .i64 61]) (by simp [results, Try.results34, go_sem, y0, y1]) rfl ⟨_, _, rfl, World.ownsRow_nil _ _ _ _, World.ownsRow_nil _ _ _ _, hb9⟩
          | true =>
            simp only [if_true]
            cases h3 : sigOk xs ys
            · rw [if_neg (fun h => by rw [h3] at h; cases h.2.2.2)] at hend
              subst hend
              rw [h3] at HCS
              clear h3
              go_wp2_with (first | (go_at_call 59; (with_reducible refine (str1 HRB.out).mono ?_); rintro e w4 ⟨rfl, hre, hf⟩; have HRE4 := Lib.hid hre; have HB4 := Lib.hid (HB.out.trans (hf.below HB.out.size (fun i hi h => absurd hi (Nat.not_lt.2 h)))); clear hre hf) | (go_at_call 48; (with_reducible refine (HT1.out w4).mono ?_); rintro e w5 ⟨u1, rfl, hu, hb⟩; have HU5 := Lib.hid hu; have HRE5 := Lib.hid (HRE4.out.below hb); have HB5 := Lib.hid (below_then HB4.out HB4.out.size hb); clear hu hb) | (go_at_call 59; (with_reducible refine (str2 HRE5.out).mono ?_); rintro e w6 ⟨rfl, hre, hf⟩; have HRF6 := Lib.hid hre; have HB6 := Lib.hid (HB5.out.trans (hf.below HB5.out.size (fun i hi h => absurd hi (Nat.not_lt.2 (by omega))))); have HU6 := Lib.hid (own_far HU5.out hf); clear hre hf) | (go_at_call 48; (with_reducible refine (HT2.out w6).mono ?_); rintro e w7 ⟨u2, rfl, hu, hb⟩; have HV7 := Lib.hid (own_less hu HB6.out.size); have HU7 := Lib.hid (own_less (pw_own_below HU6.out hb) HB4.out.size); have HRF7 := Lib.hid (HRF6.out.below hb); have E := HRF7.out.res; have HE7 := Lib.hid E; have HB7 := Lib.hid (below_then HB6.out HB6.out.size hb); obtain ⟨A1, c1, rfl⟩ := own_slice HU7.out; obtain ⟨A2, c2, rfl⟩ := own_slice HV7.out; have a0 := blk_cell E 0; have a1 := blk_cell E 1; have a2 := blk_frozen E 0; have a3 := blk_frozen E 1; have hz : w.heap.size < w7.heap.size := blk_lt E; simp only [List.getElem?_toArray, List.getElem?_cons_zero, List.getElem?_cons_succ] at a0 a1; have hps := RF.other (HRF7.out.below (below_alloc (Below.refl w7.heap.size w7) (.cells #[.slice A1 xs.length c1, .slice A2 ys.length c2] 26))); clear hu hb E) | (go_at_call 27; (with_reducible refine (HCS.out _ A1 c1 A2 c2 (Kd.C_below (own_CI HU7.out).2.2 (below_alloc (Below.refl _ _) _)) (Kd.C_below (own_CI HV7.out).2.2 (below_alloc (Below.refl _ _) _))).mono ?_); rintro e w8 ⟨rfl, hb⟩; have hba := below_alloc (Below.refl w7.heap.size w7) (.cells #[.slice A1 xs.length c1, .slice A2 ys.length c2] 26); have HB8 := Lib.hid (below_then (below_then HB7.out HB7.out.size hba) (below_then HB7.out HB7.out.size hba).size hb); have HU8 := Lib.hid (pw_own_below (pw_own_below HU7.out hba) hb); have HV8 := Lib.hid (pw_own_below (pw_own_below HV7.out hba) hb); have E7 := (hba.block _ (blk_lt HE7.out)).trans HE7.out; have E := (hb.block _ (blk_lt E7)).trans E7; have HE8 := Lib.hid E; have EG := (hb.block _ (blk_lt (World.alloc_heap_new w7 (.cells #[.slice A1 xs.length c1, .slice A2 ys.length c2] 26)))).trans (World.alloc_heap_new w7 _); have b0 := blk_cell EG 0; have b1 := blk_cell EG 1; clear a0 a1 a2 a3; have a0 := blk_cell E 0; have a1 := blk_cell E 1; have a2 := blk_frozen E 0; have a3 := blk_frozen E 1; simp only [List.getElem?_toArray, List.getElem?_cons_zero, List.getElem?_cons_succ] at a0 a1 b0 b1; clear hb hba E E7 EG))
              have F := blk_set HE8.out 0 (.slice none 0 0)
              have G := blk_set F 1 (.slice none 0 0)
              simp only [List.setIfInBounds_toArray, List.set_cons_zero, List.set_cons_succ] at G
              have hbs := (HB8.out.setCell (p := ⟨w.heap.size, 0, none⟩) (Nat.le_refl _) (.slice none 0 0)).setCell (p := ⟨w.heap.size, 1, none⟩) (Nat.le_refl _) (.slice none 0 0)
              have y0 := blk_cell G 0
              have y1 := blk_cell G 1
              simp only [List.getElem?_toArray, List.getElem?_cons_zero, List.getElem?_cons_succ] at y0 y1
              exact bodyPost_ret (v := .tuple #[.agg #[.slice none 0 0, .slice none 0 0], .int .i64 61]) (by simp [results, Try.results34, go_sem, y0, y1]) rfl ⟨_, _, rfl, World.ownsRow_nil _ _ _ _, World.ownsRow_nil _ _ _ _, hbs⟩
            · rw [if_pos ⟨rfl, rfl, rfl, h3⟩] at hend
              subst hend
              rw [h3] at HCS
              clear h3
              go_wp2_with (first | (go_at_call 59; (with_reducible refine (str1 HRB.out).mono ?_); rintro e w4 ⟨rfl, hre, hf⟩; have HRE4 := Lib.hid hre; have HB4 := Lib.hid (HB.out.trans (hf.below HB.out.size (fun i hi h => absurd hi (Nat.not_lt.2 h)))); clear hre hf) | (go_at_call 48; (with_reducible refine (HT1.out w4).mono ?_); rintro e w5 ⟨u1, rfl, hu, hb⟩; have HU5 := Lib.hid hu; have HRE5 := Lib.hid (HRE4.out.below hb); have HB5 := Lib.hid (below_then HB4.out HB4.out.size hb); clear hu hb) | (go_at_call 59; (with_reducible refine (str2 HRE5.out).mono ?_); rintro e w6 ⟨rfl, hre, hf⟩; have HRF6 := Lib.hid hre; have HB6 := Lib.hid (HB5.out.trans (hf.below HB5.out.size (fun i hi h => absurd hi (Nat.not_lt.2 (by omega))))); have HU6 := Lib.hid (own_far HU5.out hf); clear hre hf) | (go_at_call 48; (with_reducible refine (HT2.out w6).mono ?_); rintro e w7 ⟨u2, rfl, hu, hb⟩; have HV7 := Lib.hid (own_less hu HB6.out.size); have HU7 := Lib.hid (own_less (pw_own_below HU6.out hb) HB4.out.size); have HRF7 := Lib.hid (HRF6.out.below hb); have E := HRF7.out.res; have HE7 := Lib.hid E; have HB7 := Lib.hid (below_then HB6.out HB6.out.size hb); obtain ⟨A1, c1, rfl⟩ := own_slice HU7.out; obtain ⟨A2, c2, rfl⟩ := own_slice HV7.out; have a0 := blk_cell E 0; have a1 := blk_cell E 1; have a2 := blk_frozen E 0; have a3 := blk_frozen E 1; have hz : w.heap.size < w7.heap.size := blk_lt E; simp only [List.getElem?_toArray, List.getElem?_cons_zero, List.getElem?_cons_succ] at a0 a1; have hps := RF.other (HRF7.out.below (below_alloc (Below.refl w7.heap.size w7) (.cells #[.slice A1 xs.length c1, .slice A2 ys.length c2] 26))); clear hu hb E) | (go_at_call 27; (with_reducible refine (HCS.out _ A1 c1 A2 c2 (Kd.C_below (own_CI HU7.out).2.2 (below_alloc (Below.refl _ _) _)) (Kd.C_below (own_CI HV7.out).2.2 (below_alloc (Below.refl _ _) _))).mono ?_); rintro e w8 ⟨rfl, hb⟩; have hba := below_alloc (Below.refl w7.heap.size w7) (.cells #[.slice A1 xs.length c1, .slice A2 ys.length c2] 26); have HB8 := Lib.hid (below_then (below_then HB7.out HB7.out.size hba) (below_then HB7.out HB7.out.size hba).size hb); have HU8 := Lib.hid (pw_own_below (pw_own_below HU7.out hba) hb); have HV8 := Lib.hid (pw_own_below (pw_own_below HV7.out hba) hb); have E7 := (hba.block _ (blk_lt HE7.out)).trans HE7.out; have E := (hb.block _ (blk_lt E7)).trans E7; have HE8 := Lib.hid E; have EG := (hb.block _ (blk_lt (World.alloc_heap_new w7 (.cells #[.slice A1 xs.length c1, .slice A2 ys.length c2] 26)))).trans (World.alloc_heap_new w7 _); have b0 := blk_cell EG 0; have b1 := blk_cell EG 1; clear a0 a1 a2 a3; have a0 := blk_cell E 0; have a1 := blk_cell E 1; have a2 := blk_frozen E 0; have a3 := blk_frozen E 1; simp only [List.getElem?_toArray, List.getElem?_cons_zero, List.getElem?_cons_succ] at a0 a1 b0 b1; clear hb hba E E7 EG))
              have F := blk_set HE8.out 0 (.slice A1 xs.length c1)
              have G := blk_set F 1 (.slice A2 ys.length c2)
              simp only [List.setIfInBounds_toArray, List.set_cons_zero, List.set_cons_succ] at G
              have hbs := (HB8.out.setCell (p := ⟨w.heap.size, 0, none⟩) (Nat.le_refl _) (.slice A1 xs.length c1)).setCell (p := ⟨w.heap.size, 1, none⟩) (Nat.le_refl _) (.slice A2 ys.length c2)
              have y0 := blk_cell G 0
              have y1 := blk_cell G 1
              simp only [List.getElem?_toArray, List.getElem?_cons_zero, List.getElem?_cons_succ] at y0 y1
              have hlow := Nat.lt_irrefl w.heap.size
              have hfs := ((Fr.refl (fun i => i = w.heap.size) w8).set ⟨w.heap.size, 0, none⟩ (.slice A1 xs.length c1) (fun _ => rfl)).set ⟨w.heap.size, 1, none⟩ (.slice A2 ys.length c2) (fun _ => rfl)
              have hu5 := own_fr HU8.out hfs (fun b hb e => own_ne HU8.out HE8.out (by decide) (by rw [← e]; exact hb.symm))
              have hv5 := own_fr HV8.out hfs (fun b hb e => own_ne HV8.out HE8.out (by decide) (by rw [← e]; exact hb.symm))
              exact bodyPost_ret (v := .tuple #[.agg #[.slice A1 xs.length c1, .slice A2 ys.length c2], .int .i64 0]) (by simp [results, Try.results34, go_sem, y0, y1]) rfl ⟨_, _, rfl, hu5, hv5, hbs⟩
end Go.Proofs.Ytacmajlbaenjfaa
