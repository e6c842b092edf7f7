/- What VaryWrites holds: the Tape, the bytes that are wanted, a row of its own; each in memory of its own. -/
import Derived.Test.YtpiainanlmpieaaVi
namespace Go.Proofs.Ytpiainanlmpieaa
open Go.RowKit Go.Shelf Go.Proofs.YtpiainanlmpieaaW.PrintWords Go.Proofs.YtpiainanlmpieaaW.PrintLast Go.Proofs.YtpiainanlmpieaaW.PrintMore
open Go.Proofs.Ytpiainanlmpieaa.Pgreat

theorem own_fr {S : Nat → Prop} {w W : World} {base n : Nat} {e : TypeId} {size : Nat} {v : Value} {xs : List Value} (h : w.ownsRow base e size v n xs) (hF : Fr S w W) (hn : ∀ b, v.ownBlock = some b → ¬ S b) : W.ownsRow base e size v n xs := by
  refine ⟨h.1, ?_⟩
  rcases h.2 with hn' | ⟨g, cap, cur, rfl, hb, hgg, rest⟩
  · exact .inl hn'
  · refine .inr ⟨g, cap, cur, rfl, hb, ?_, rest⟩
    rw [hF.block g (Array.getElem?_eq_some_iff.1 hgg).1 (hn g rfl)]
    exact hgg

theorem TapeIs.fr {S : Nat → Prop} {w W : World} {g base : Nat} {v : Value} {xs : List Int} (h : TapeIs w g base v xs) (hF : Fr S w W) (hg : ¬ S g) (hn : ∀ b, v.ownBlock = some b → ¬ S b) : TapeIs W g base v xs :=
  ⟨(hF.block g (blk_lt h.blk) hg).trans h.blk, own_fr h.own hF hn⟩

/-- The Tape at block g and the wanted bytes vw, both of bytes xs. -/
structure WAt (W : World) (g base : Nat) (vt vw : Value) (xs : List Int) : Prop where
  tape : TapeIs W g base vt xs
  want : W.ownsRow base 5 1 vw xs.length (nums .u8 xs)
  apart : ∀ b, vt.ownBlock = some b → vw.ownBlock ≠ some b

theorem WAt.fr {S : Nat → Prop} {w W : World} {g base : Nat} {vt vw : Value} {xs : List Int} (h : WAt w g base vt vw xs) (hF : Fr S w W) (hg : ¬ S g) (ht : ∀ b, vt.ownBlock = some b → ¬ S b) (hw : ∀ b, vw.ownBlock = some b → ¬ S b) : WAt W g base vt vw xs :=
  ⟨h.tape.fr hF hg ht, own_fr h.want hF hw, h.apart⟩

theorem WAt.below {w W : World} {g base : Nat} {vt vw : Value} {xs : List Int} (h : WAt w g base vt vw xs) (hB : Below w.heap.size w W) : WAt W g base vt vw xs := by
  have hl := blk_lt h.tape.blk
  refine h.fr (S := fun i => w.heap.size ≤ i) ⟨hB.os, hB.tape, hB.output, hB.size, fun i hi _ => hB.block i hi⟩ (by omega) (fun b hb => ?_) (fun b hb => ?_)
  · have := (World.ownsRow.lt h.tape.own b hb).2; omega
  · have := (World.ownsRow.lt h.want b hb).2; omega

theorem WAt.tape2 {W W2 : World} {g base : Nat} {vt vw : Value} {xs : List Int} (h : WAt W g base vt vw xs) (hgrow : W.grownBy W2 vw.ownBlock) : TapeIs W2 g base vt xs :=
  h.tape.fr (Fr.grown (S := fun i => vw.ownBlock = some i) hgrow (fun _ _ e => e)) (fun e => own_ne h.want h.tape.blk (by decide) e.symm) (fun b hb e => h.apart b hb e)

/-- A row of its own, apart from both. -/
structure Own (W : World) (g lo : Nat) (vt vw v6 : Value) (bs : List Int) : Prop where
  row : W.ownsRow lo 5 1 v6 bs.length (nums .u8 bs)
  far : ∀ b, v6.ownBlock = some b → b ≠ g ∧ vt.ownBlock ≠ some b ∧ vw.ownBlock ≠ some b

theorem Own.made {w W : World} {g base : Nat} {vt vw v6 : Value} {xs bs : List Int} (h : WAt w g base vt vw xs) (hr : W.ownsRow w.heap.size 5 1 v6 bs.length (nums .u8 bs)) : Own W g w.heap.size vt vw v6 bs := by
  refine ⟨hr, fun b hb => ?_⟩
  have h1 := (World.ownsRow.lt hr b hb).1
  have hl := blk_lt h.tape.blk
  refine ⟨by omega, fun h2 => ?_, fun h2 => ?_⟩
  · have := (World.ownsRow.lt h.tape.own b h2).2; omega
  · have := (World.ownsRow.lt h.want b h2).2; omega

theorem Own.below {w W : World} {g lo : Nat} {vt vw v6 : Value} {bs : List Int} (h : Own w g lo vt vw v6 bs) (hB : Below w.heap.size w W) : Own W g lo vt vw v6 bs :=
  ⟨pw_own_below h.row hB, h.far⟩

theorem Own.at_ {W : World} {g lo n c : Nat} {vt vw : Value} {A : Option Addr} {zs : List Int} (h : Own W g lo vt vw (.slice A n c) zs) (j : Nat) (hj : j < zs.length) :
    ∃ g6, A = some ⟨g6, 0, none⟩ ∧ n = zs.length ∧ lo ≤ g6 ∧ g6 < W.heap.size ∧ W.cell? ⟨g6, j, none⟩ = some (.int .u8 (zs.getD j 0)) ∧ W.frozen? ⟨g6, j, none⟩ = false := by
  rcases h.row.2 with ⟨_, h0⟩ | ⟨g6, cap, cur, e, hb, _⟩
  · omega
  · have hn := (row_C h.row).1
    cases e
    have hlt := World.ownsRow.lt h.row g6 rfl
    refine ⟨g6, rfl, rfl, hb, hlt.2, ?_, World.ownsRow.frozenAt h.row j⟩
    rw [World.ownsRow.cellAt h.row j (by omega)]
    simp [nums, List.getD_eq_getElem?_getD, List.getElem?_eq_getElem hj]

theorem Own.put {W : World} {g base lo g6 c : Nat} {vt vw : Value} {xs zs : List Int} (h : Own W g lo vt vw (.slice (some ⟨g6, 0, none⟩) zs.length c) zs) (hW : WAt W g base vt vw xs) (j : Nat) (x : Int) :
    Own (W.setCell ⟨g6, j, none⟩ (.int .u8 x)) g lo vt vw (.slice (some ⟨g6, 0, none⟩) zs.length c) (zs.set j x) ∧ WAt (W.setCell ⟨g6, j, none⟩ (.int .u8 x)) g base vt vw xs := by
  refine ⟨⟨?_, h.far⟩, ?_⟩
  · have h2 := own_put h.row j x
    rw [Int.toNat_natCast] at h2
    exact h2
  · refine hW.fr (S := fun i => i = g6) ((Fr.refl _ _).set _ _ (fun _ => rfl)) (fun e => (h.far g6 rfl).1 e.symm) (fun b hb e => ?_) (fun b hb e => ?_)
    · subst e; exact (h.far b rfl).2.1 hb
    · subst e; exact (h.far b rfl).2.2 hb

/-- The wanted bytes have grown, and then the Tape. -/
theorem WAt.wrote {W W2 W3 : World} {g base : Nat} {vt vw vw2 vt2 : Value} {xs ys : List Int} (h : WAt W g base vt vw xs) (hat : vw2.ownBlock = vw.ownBlock ∨ ∃ b, vw2.ownBlock = some b ∧ W.heap.size ≤ b)
    (ho2 : W2.ownsRow base 5 1 vw2 ys.length (nums .u8 ys)) (hT2 : TapeIs W3 g base vt2 ys) (hv2 : vt2.ownBlock = vt.ownBlock ∨ ∃ b, vt2.ownBlock = some b ∧ W2.heap.size ≤ b) (hF : Fr (fun i => i = g ∨ vt.ownBlock = some i) W2 W3) : WAt W3 g base vt2 vw2 ys := by
  have hl := blk_lt h.tape.blk
  have hgw : vw.ownBlock ≠ some g := fun e => own_ne h.want h.tape.blk (by decide) e.symm
  have hg2 : vw2.ownBlock ≠ some g := by
    rcases hat with e | ⟨b, e, hb⟩
    · rw [e]; exact hgw
    · rw [e]; intro e2; cases e2; omega
  have ha2 : ∀ b, vt.ownBlock = some b → vw2.ownBlock ≠ some b := by
    intro b hb
    rcases hat with e | ⟨c, e, hc⟩
    · rw [e]; exact h.apart b hb
    · rw [e]; intro e2; cases e2
      have := (World.ownsRow.lt h.tape.own _ hb).2; omega
  refine ⟨hT2, own_fr ho2 hF (fun b hb hS => ?_), fun b hb e => ?_⟩
  · rcases hS with rfl | hS
    · exact hg2 hb
    · exact ha2 b hS hb
  · rcases hv2 with e2 | ⟨c, e2, hc⟩
    · exact ha2 b (e2 ▸ hb) e
    · rw [e2] at hb; cases hb
      have := (World.ownsRow.lt ho2 _ e).2; omega

theorem Own.wrote {W W2 W3 : World} {g lo : Nat} {vt vw v6 vw2 vt2 : Value} {bs : List Int} (h : Own W g lo vt vw v6 bs) (hg : g < W.heap.size) (hgrow : W.grownBy W2 vw.ownBlock) (hat : vw2.ownBlock = vw.ownBlock ∨ ∃ b, vw2.ownBlock = some b ∧ W.heap.size ≤ b)
    (hv2 : vt2.ownBlock = vt.ownBlock ∨ ∃ b, vt2.ownBlock = some b ∧ W2.heap.size ≤ b) (hF : Fr (fun i => i = g ∨ vt.ownBlock = some i) W2 W3) : Own W3 g lo vt2 vw2 v6 bs := by
  have hlt : ∀ b, v6.ownBlock = some b → b < W.heap.size := fun b hb => (World.ownsRow.lt h.row b hb).2
  refine ⟨own_fr (own_fr h.row (Fr.grown (S := fun i => vw.ownBlock = some i) hgrow (fun i _ e => e)) (fun b hb => (h.far b hb).2.2)) hF (fun b hb hS => ?_), fun b hb => ⟨(h.far b hb).1, fun e => ?_, fun e => ?_⟩⟩
  · rcases hS with rfl | hS
    · exact (h.far b hb).1 rfl
    · exact (h.far b hb).2.1 hS
  · have := hgrow.size
    have := hlt b hb
    rcases hv2 with e2 | ⟨c, e2, hc⟩
    · exact (h.far b hb).2.1 (e2 ▸ e)
    · rw [e2] at e; cases e; omega
  · have := hlt b hb
    rcases hat with e2 | ⟨c, e2, hc⟩
    · exact (h.far b hb).2.2 (e2 ▸ e)
    · rw [e2] at e; cases e; omega
end Go.Proofs.Ytpiainanlmpieaa
