/- What VaryReads holds: both Reels at one place, in memory of their own; a row of the call's own apart from them. -/
import Derived.Test.YtpiainanlmpieaaVs
import Derived.Test.YtpiainanlmpieaaVj
namespace Go.Proofs.Ytpiainanlmpieaa
open Go.RowKit Go.Shelf Go.Proofs.YtpiainanlmpieaaW.PrintWords Go.Proofs.YtpiainanlmpieaaW.PrintLast Go.Proofs.YtpiainanlmpieaaW.PrintMore

theorem ReelIs.fr {S : Nat → Prop} {w W : World} {g base p : Nat} {v : Value} {bs : List Int} (h : ReelIs w g base v bs p) (hF : Fr S w W) (hg : ¬ S g) (hn : ∀ b, v.ownBlock = some b → ¬ S b) : ReelIs W g base v bs p :=
  ⟨(hF.block g (blk_lt h.blk) hg).trans h.blk, own_fr h.own hF hn, h.le, h.small, h.bytes⟩
theorem RefIs.fr {S : Nat → Prop} {w W : World} {g base p : Nat} {v : Value} {bs : List Int} (h : RefIs w g base v bs p) (hF : Fr S w W) (hg : ¬ S g) (hn : ∀ b, v.ownBlock = some b → ¬ S b) : RefIs W g base v bs p :=
  ⟨(hF.block g (blk_lt h.blk) hg).trans h.blk, own_fr h.own hF hn, h.le, h.small, h.bytes⟩

/-- Both Reels, of the same bytes, at the same place. -/
structure RAt (W : World) (g h b1 b2 : Nat) (rv sv : Value) (bs : List Int) (q : Nat) : Prop where
  reel : ReelIs W g b1 rv bs q
  ref : RefIs W h b2 sv bs q

theorem RAt.ne {W : World} {g h b1 b2 q : Nat} {rv sv : Value} {bs : List Int} (hA : RAt W g h b1 b2 rv sv bs q) : g ≠ h := by
  rintro rfl
  have := hA.reel.blk.symm.trans hA.ref.blk
  cases this

theorem RAt.fr {S : Nat → Prop} {w W : World} {g h b1 b2 q : Nat} {rv sv : Value} {bs : List Int} (hA : RAt w g h b1 b2 rv sv bs q) (hF : Fr S w W) (hg : ¬ S g) (hh : ¬ S h) (hr : ∀ b, rv.ownBlock = some b → ¬ S b) (hs : ∀ b, sv.ownBlock = some b → ¬ S b) : RAt W g h b1 b2 rv sv bs q :=
  ⟨hA.reel.fr hF hg hr, hA.ref.fr hF hh hs⟩

theorem RAt.below {w W : World} {g h b1 b2 q : Nat} {rv sv : Value} {bs : List Int} (hA : RAt w g h b1 b2 rv sv bs q) (hB : Below w.heap.size w W) : RAt W g h b1 b2 rv sv bs q :=
  ⟨hA.reel.below hB, hA.ref.below hB⟩

/-- The one has read, then the other, likewise. -/
theorem RAt.read {w w1 w2 : World} {g h b1 b2 q q2 : Nat} {rv sv : Value} {bs : List Int} (hA : RAt w g h b1 b2 rv sv bs q) (h1 : ReelIs w1 g b1 rv bs q2) (_ : Fr (fun i => i = g) w w1) (h2 : RefIs w2 h b2 sv bs q2) (hF2 : Fr (fun i => i = h) w1 w2) : RAt w2 g h b1 b2 rv sv bs q2 :=
  ⟨h1.fr hF2 hA.ne (fun b hb e => by subst e; exact own_ne h1.own ((hF2.block b (World.ownsRow.lt h1.own b hb).2 (fun _ => by
    have hr := hA.ref.ne
    exact absurd hb (fun hb' => own_ne hA.reel.own hA.ref.blk (by decide) hb'.symm))).symm.trans h2.blk) (by decide) hb.symm), h2⟩

theorem RAt.refAfter {w w1 : World} {g h b1 b2 q : Nat} {rv sv : Value} {bs : List Int} (hA : RAt w g h b1 b2 rv sv bs q) (hF : Fr (fun i => i = g) w w1) : RefIs w1 h b2 sv bs q :=
  hA.ref.fr hF (fun e => hA.ne e.symm) (fun b hb e => by subst e; exact own_ne hA.ref.own hA.reel.blk (by decide) hb.symm)

/-- A row of the call's own, apart from both Reels. -/
structure ROwn (W : World) (g h lo : Nat) (rv sv v6 : Value) (bs : List Int) : Prop where
  row : W.ownsRow lo 5 1 v6 bs.length (nums .u8 bs)
  far : ∀ b, v6.ownBlock = some b → b ≠ g ∧ b ≠ h ∧ rv.ownBlock ≠ some b ∧ sv.ownBlock ≠ some b

theorem ROwn.below {w W : World} {g h lo : Nat} {rv sv v6 : Value} {bs : List Int} (hO : ROwn w g h lo rv sv v6 bs) (hB : Below w.heap.size w W) : ROwn W g h lo rv sv v6 bs := ⟨pw_own_below hO.row hB, hO.far⟩

/-- A row that was made when both Reels stood. -/
theorem ROwn.made {w W : World} {g h b1 b2 q : Nat} {rv sv v6 : Value} {bs zs : List Int} (hA : RAt w g h b1 b2 rv sv bs q) (hr : W.ownsRow w.heap.size 5 1 v6 zs.length (nums .u8 zs)) : ROwn W g h w.heap.size rv sv v6 zs := by
  refine ⟨hr, fun b hb => ?_⟩
  have h1 := (World.ownsRow.lt hr b hb).1
  have hg := blk_lt hA.reel.blk
  have hh := blk_lt hA.ref.blk
  refine ⟨by omega, by omega, fun e => ?_, fun e => ?_⟩
  · have := (World.ownsRow.lt hA.reel.own b e).2; omega
  · have := (World.ownsRow.lt hA.ref.own b e).2; omega

theorem ROwn.at_ {W : World} {g h lo n c : Nat} {rv sv : Value} {A : Option Addr} {zs : List Int} (hO : ROwn W g h lo rv sv (.slice A n c) zs) (j : Nat) (hj : j < zs.length) :
    ∃ g6, A = some ⟨g6, 0, none⟩ ∧ n = zs.length ∧ lo ≤ g6 ∧ g6 < W.heap.size ∧ W.cell? ⟨g6, j, none⟩ = some (.int .u8 (zs.getD j 0)) ∧ W.frozen? ⟨g6, j, none⟩ = false := by
  rcases hO.row.2 with ⟨_, h0⟩ | ⟨g6, cap, cur, e, hb, _⟩
  · omega
  · have hn := (row_C hO.row).1
    cases e
    have hlt := World.ownsRow.lt hO.row g6 rfl
    refine ⟨g6, rfl, rfl, hb, hlt.2, ?_, World.ownsRow.frozenAt hO.row j⟩
    rw [World.ownsRow.cellAt hO.row j (by omega)]
    simp [nums, List.getD_eq_getElem?_getD, List.getElem?_eq_getElem hj]

theorem ROwn.put {W : World} {g h b1 b2 lo g6 c q : Nat} {rv sv : Value} {bs zs : List Int} (hO : ROwn W g h lo rv sv (.slice (some ⟨g6, 0, none⟩) zs.length c) zs) (hA : RAt W g h b1 b2 rv sv bs q) (j : Nat) (x : Int) :
    ROwn (W.setCell ⟨g6, j, none⟩ (.int .u8 x)) g h lo rv sv (.slice (some ⟨g6, 0, none⟩) zs.length c) (zs.set j x) ∧ RAt (W.setCell ⟨g6, j, none⟩ (.int .u8 x)) g h b1 b2 rv sv bs q := by
  refine ⟨⟨?_, hO.far⟩, ?_⟩
  · have h2 := own_put hO.row j x
    rw [Int.toNat_natCast] at h2
    exact h2
  · refine hA.fr (S := fun i => i = g6) ((Fr.refl _ _).set _ _ (fun _ => rfl)) (fun e => (hO.far g6 rfl).1 e.symm) (fun e => (hO.far g6 rfl).2.1 e.symm) (fun b hb e => ?_) (fun b hb e => ?_)
    · subst e; exact (hO.far b rfl).2.2.1 hb
    · subst e; exact (hO.far b rfl).2.2.2 hb

/-- Calls of the two Reels leave the row. -/
theorem ROwn.fr {S : Nat → Prop} {w W : World} {g h lo : Nat} {rv sv v6 : Value} {bs : List Int} (hO : ROwn w g h lo rv sv v6 bs) (hF : Fr S w W) (hS : ∀ i, S i → i = g ∨ i = h) : ROwn W g h lo rv sv v6 bs :=
  ⟨own_fr hO.row hF (fun b hb e => by rcases hS b e with e | e; exact (hO.far b hb).1 e; exact (hO.far b hb).2.1 e), hO.far⟩
end Go.Proofs.Ytpiainanlmpieaa
