/- A list of calls that came in: each call's numbers and bytes, and that none's bytes are beyond reach. 'great' of it. -/
import Derived.Test.YtpiainanlmpieaaVh
import Derived.Test.YtpiainanlmpieaaPgreatx1
import Derived.Deep.Slices
import Derived.SizedLaws
namespace Go.Proofs.Ytpiainanlmpieaa
open Go.RowKit Go.Shelf Go.Proofs.YtpiainanlmpieaaW.PrintWords Go.Proofs.YtpiainanlmpieaaW.PrintLast Go.Proofs.YtpiainanlmpieaaW.PrintMore
open Go.Proofs.Ytpiainanlmpieaa.Pgreat Go.Deep Go.ChangeShapes

/-- A call whose numbers are numbers of their types. -/
structure OpFits (o : S35) : Prop where
  f0 : -9223372036854775808 ≤ o.f0 ∧ o.f0 ≤ 9223372036854775807
  f1 : -9223372036854775808 ≤ o.f1 ∧ o.f1 ≤ 9223372036854775807
  f2 : 0 ≤ o.f2 ∧ o.f2 ≤ 18446744073709551615
  f3 : -9223372036854775808 ≤ o.f3 ∧ o.f3 ≤ 9223372036854775807
  f4 : -9223372036854775808 ≤ o.f4 ∧ o.f4 ≤ 9223372036854775807
  f5 : ∀ b ∈ o.f5, 0 ≤ b ∧ b ≤ 255
  small : o.f5.length ≤ 140737488351232

theorem cells3 : Try.prog.cellsOf 3 = 1 := by kernel_rfl
theorem cells22 : Try.prog.cellsOf 22 = 1 := by kernel_rfl
theorem cells2 : Try.prog.cellsOf 2 = 1 := by kernel_rfl
theorem cells30 : Try.prog.cellsOf 30 = 1 := by kernel_rfl
theorem cells5 : Try.prog.cellsOf 5 = 1 := by kernel_rfl
theorem cells35 : Try.prog.cellsOf 35 = 6 := by kernel_rfl
theorem bytes5 : Try.prog.bytesOf 5 = 1 := by kernel_rfl

section
variable {H : Type} {enc : TypeId × Value → H} {W : World}

set_option maxRecDepth 100000 in
theorem came_op {fuel : Nat} {cs : List Value} {x : DataW H × List MemPlace} (h : DataW.trod enc Try.prog W 0 (fun _ => true) true fuel 35 cs = some x) (hw : ∀ n ∈ x.1.weights Try.prog 35, n ≤ reachBytes) :
    ∃ o : S35, cs.length = 6 ∧ k35.K W o cs ∧ OpFits o := by
  obtain ⟨xs, n, _, hx, hlen, hxl, hf⟩ := DataW.trod_struct Try.underlying35 h
  rw [cells35] at hlen
  match cs, hlen with
  | [c0, c1, c2, c3, c4, c5], _ =>
    match xs, hxl with
    | [y0, y1, y2, y3, y4, y5], _ =>
      have g0 : DataW.trod enc Try.prog W 0 (fun _ => true) true n 3 (([c0, c1, c2, c3, c4, c5].drop 0).take (Try.prog.cellsOf 3)) = some y0 := hf 0 _ rfl
      have g1 : DataW.trod enc Try.prog W 0 (fun _ => true) true n 3 (([c0, c1, c2, c3, c4, c5].drop 1).take (Try.prog.cellsOf 3)) = some y1 := hf 1 _ rfl
      have g2 : DataW.trod enc Try.prog W 0 (fun _ => true) true n 22 (([c0, c1, c2, c3, c4, c5].drop 2).take (Try.prog.cellsOf 22)) = some y2 := hf 2 _ rfl
      have g3 : DataW.trod enc Try.prog W 0 (fun _ => true) true n 2 (([c0, c1, c2, c3, c4, c5].drop 3).take (Try.prog.cellsOf 2)) = some y3 := hf 3 _ rfl
      have g4 : DataW.trod enc Try.prog W 0 (fun _ => true) true n 2 (([c0, c1, c2, c3, c4, c5].drop 4).take (Try.prog.cellsOf 2)) = some y4 := hf 4 _ rfl
      have g5 : DataW.trod enc Try.prog W 0 (fun _ => true) true n 30 (([c0, c1, c2, c3, c4, c5].drop 5).take (Try.prog.cellsOf 30)) = some y5 := hf 5 _ rfl
      rw [cells3] at g0 g1
      rw [cells22] at g2
      rw [cells2] at g3 g4
      rw [cells30] at g5
      simp only [List.drop_zero, List.drop_succ_cons, List.take_succ_cons, List.take_zero] at g0 g1 g2 g3 g4 g5
      obtain ⟨n0, e0, _, w0⟩ := DataW.trod_int Try.underlying3 g0
      obtain ⟨n1, e1, _, w1⟩ := DataW.trod_int Try.underlying3 g1
      obtain ⟨n2, e2, _, w2⟩ := DataW.trod_int Try.underlying22 g2
      obtain ⟨n3, e3, _, w3⟩ := DataW.trod_int Try.underlying2 g3
      obtain ⟨n4, e4, _, w4⟩ := DataW.trod_int Try.underlying2 g4
      cases e0; cases e1; cases e2; cases e3; cases e4
      have hrow : ∃ A c bs, c5 = .slice A (bs : List Int).length c ∧ bs.length ≤ c ∧ (Kd.int .u8).C W A bs.length bs ∧ (∀ b ∈ bs, 0 ≤ b ∧ b ≤ 255) ∧ bs.length ≤ 140737488351232 := by
        rcases Go.ChangeShapes.open_ints Try.underlying30 Try.underlying5 cells5 g5 with ⟨hcs, _⟩ | ⟨a, l, c, zs, hcs, _, hl, hm, hz, hd, hcell, hwz⟩
        · cases hcs
          obtain ⟨bs, h1, h2, h3, h4, h5⟩ := came_C (w := W) (A := none) (len := 0) (cap := 0) (zs := []) (.inl ⟨rfl, rfl, rfl, rfl⟩)
          exact ⟨none, 0, bs, by rw [h1], h2, h4, h5, by omega⟩
        · cases hcs
          simp only [if_true] at hz
          obtain ⟨bs, h1, h2, h3, h4, h5⟩ := came_C (w := W) (A := some a) (len := l) (cap := c) (zs := zs) (.inr ⟨a, rfl, hl, hm, hz, hcell, hwz⟩)
          subst h1
          refine ⟨some a, c, bs, rfl, h2, h4, h5, ?_⟩
          have hmem := hw (((lits .u8 (zs.take bs.length) : List (DataW H)).length + (lits .u8 (zs.drop bs.length) : List (DataW H)).length) * Try.prog.bytesOf 5) (by
            rw [hx]
            simp only [List.map_cons, List.map_nil, DataW.weights, Try.underlying35]
            refine DataW.weights_mem_each (j := 5) (t := 30) (d := y5.1) rfl rfl _ ?_
            rw [hd]
            simp [DataW.weights, Try.underlying30])
          rw [bytes5] at hmem
          simp only [lits, List.length_map, List.length_take, List.length_drop, reachBytes] at hmem
          omega
      obtain ⟨A, c, bs, rfl, h1, h2, h3, h4⟩ := hrow
      refine ⟨⟨n0, n1, n2, n3, n4, bs⟩, rfl, k35_mk W ⟨n0, n1, n2, n3, n4, bs⟩ h1 h2, ⟨Go.bounds_i64 w0, Go.bounds_i64 w1, Go.bounds_u64 w2, Go.bounds_i64 w3, Go.bounds_i64 w4, h3, h4⟩⟩

theorem weights_all {P : Program} {e : TypeId} : ∀ {l : List (DataW H)} {d : DataW H}, d ∈ l → ∀ n ∈ d.weights P e, n ∈ DataW.weightsAll P e l
  | d0 :: l, d, hd, n, hn => by
    simp only [DataW.weightsAll, List.mem_append]
    rcases List.mem_cons.1 hd with rfl | h
    · exact .inl hn
    · exact .inr (weights_all h n hn)

theorem came_ops {fuel : Nat} {v : Value} {x : DataW H × List MemPlace} (h : DataW.trod enc Try.prog W 0 (fun _ => true) true fuel 28 [v] = some x) (hw : ∀ n ∈ x.1.weights Try.prog 28, n ≤ reachBytes) :
    ∃ A c ops, v = .slice A (ops : List S35).length c ∧ ops.length ≤ c ∧ c ≤ 9223372036854775807 ∧ Kd.C k35 W A ops.length ops ∧ ∀ o ∈ ops, OpFits o := by
  rcases open_slice Try.underlying28 h with ⟨hcs, _⟩ | ⟨a, len, cap, m, n, D, Pl, hcs, hb, hl, hm, hmm, hx, hi⟩
  · cases hcs
    exact ⟨none, 0, [], rfl, Nat.le_refl _, by omega, ⟨rfl, by simp, fun h => absurd h (by simp)⟩, by simp⟩
  · cases hcs
    simp only [if_true] at hmm
    have hO : ∀ i, ∃ o : S35, i < len → (∃ cs', cs'.length = 6 ∧ k35.K W o cs' ∧ ∀ j, j < 6 → W.cell? ((a.add (i * 6)).add j) = cs'[j]?) ∧ OpFits o := by
      intro i
      by_cases hil : i < len
      · obtain ⟨cs', hc, ht⟩ := hi i (by omega)
        rw [cells35] at hc
        obtain ⟨_, hcl, hat⟩ := World.cells?_some hc
        obtain ⟨o, h1, h2, h3⟩ := came_op ht (fun n hn => hw n (by
          rw [hx]
          simp only [DataW.weights, Try.underlying28, List.mem_cons, List.mem_append]
          refine .inr (.inl ?_)
          exact weights_all (List.mem_map.2 ⟨i, List.mem_range.2 hil, rfl⟩) n hn))
        exact ⟨o, fun _ => ⟨⟨cs', h1, h2, hat⟩, h3⟩⟩
      · exact ⟨z35, fun h => absurd h hil⟩
    obtain ⟨O, hO⟩ := Classical.skolem.mp hO
    refine ⟨some a, cap, (List.range len).map O, by simp, by simpa using hl, by unfold maxLen at hm; omega, ⟨rfl, by simp; unfold maxLen at hm; omega, fun _ => ⟨a, rfl, fun j p hj => ?_⟩⟩, fun o ho => ?_⟩
    · simp only [List.getElem?_map] at hj
      by_cases hjl : j < len
      · rw [List.getElem?_range hjl] at hj
        cases hj
        obtain ⟨⟨cs', h1, h2, h3⟩, _⟩ := hO j hjl
        refine ⟨cs', h1, h2, fun i u hu => ?_⟩
        have hi6 : i < 6 := by
          rcases Nat.lt_or_ge i 6 with h | h
          · exact h
          · rw [List.getElem?_eq_none (by omega)] at hu; cases hu
        have := h3 i hi6
        rw [Go.Deep.add_add] at this
        exact this.trans hu
      · rw [List.getElem?_eq_none (by simp; omega)] at hj
        cases hj
    · obtain ⟨i, hir, rfl⟩ := List.mem_map.1 ho
      exact (hO i (List.mem_range.1 hir)).2
end

def opsSum : List S35 → Nat
  | [] => 0
  | o :: l => o.f5.length + opsSum l

theorem opsSum_drop (l : List S35) (i : Nat) (h : i < l.length) : opsSum (l.drop i) = (l[i]).f5.length + opsSum (l.drop (i + 1)) := by
  rw [List.drop_eq_getElem_cons h]; rfl

theorem great_l0 (l : List S35) (hl : l.length ≤ 9223372036854775807) (hs : ∀ o ∈ l, o.f5.length ≤ 140737488351232) : ∀ (m i : Nat) (x : Int), i + m = l.length →
    (l.length ≤ 100 → 0 ≤ x ∧ x ≤ 140737488351232 * i) →
    backstaylaw01_great.l0 (m + 1) l x l.length i = some (if 100 < l.length then true else decide (20000 < x + opsSum (l.drop i)))
  | 0, i, x, hi, _ => by
    rw [backstaylaw01_great.l0, if_neg (by omega)]
    have : l.drop i = [] := List.drop_of_length_le (by omega)
    rw [this]
    by_cases h : 100 < l.length
    · rw [if_pos (by omega), if_pos h]
    · rw [if_neg (by omega), if_neg h]
      simp [opsSum]
  | m + 1, i, x, hi, hx => by
    have hil : i < l.length := by omega
    rw [backstaylaw01_great.l0, if_pos (by omega), if_pos (by omega), if_pos (by omega)]
    have e1 : wrap64 ((i : Int) + 1) = ((i + 1 : Nat) : Int) := by unfold wrap64; omega
    have e2 : rd_T35 l i = l[i] := by
      unfold rd_T35
      rw [Int.toNat_natCast, List.getD_eq_getElem?_getD, List.getElem?_eq_getElem hil]
      rfl
    have hsm := hs l[i] (List.getElem_mem hil)
    rw [e1, e2]
    by_cases h : 100 < l.length
    · rw [great_l0 l hl hs m (i + 1) _ (by omega) (fun h' => absurd h (by omega)), if_pos h, if_pos h]
    · obtain ⟨h0, h1⟩ := hx (by omega)
      have e3 : wrap64 (x + ((l[i].f5.length : Nat) : Int)) = x + ((l[i].f5.length : Nat) : Int) := by unfold wrap64; omega
      rw [e3, great_l0 l hl hs m (i + 1) _ (by omega) (fun _ => ⟨by omega, by omega⟩), if_neg h, if_neg h, opsSum_drop l i hil]
      congr 2
      simp only [eq_iff_iff]
      omega

/-- Are calls more than the statements go through? -/
def tooGreat (l : List S35) : Bool := if 100 < l.length then true else decide (20000 < opsSum l)

theorem tooGreat_no {l : List S35} (h : tooGreat l = false) : l.length ≤ 100 ∧ opsSum l ≤ 20000 := by
  unfold tooGreat at h
  split at h
  · cases h
  · simp at h; omega

theorem great_any (A : Option Addr) (c : Nat) (l : List S35) (w : World) (hC : Kd.C k35 w A l.length l) (hc : l.length ≤ c) (hcm : c ≤ 9223372036854775807) (hs : ∀ o ∈ l, OpFits o) :
    Calls Try.prog 14 #[.slice A l.length c] w fun e w' => e = .returned (.bool (tooGreat l)) ∧ Drawn0 w w' := by
  have h := great_l0 l (by omega) (fun o ho => (hs o ho).small) l.length 0 0 (by omega) (fun _ => ⟨by omega, by omega⟩)
  rw [List.drop_zero] at h
  have e : (if 100 < l.length then true else decide (20000 < (0 : Int) + opsSum l)) = tooGreat l := by
    unfold tooGreat
    split
    · rfl
    · simp only [decide_eq_decide]; omega
  rw [e] at h
  exact backstaylaw01_great.calls (l.length + 1) A c l _ w hC hc h
end Go.Proofs.Ytpiainanlmpieaa
