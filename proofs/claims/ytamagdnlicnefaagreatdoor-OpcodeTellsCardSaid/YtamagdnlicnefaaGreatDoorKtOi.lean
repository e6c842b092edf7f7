/- Opcode: Decode. -/
import Derived.Test.YtamagdnlicnefaaGreatDoorKtOh
namespace Go.Proofs.YtamagdnlicnefaaGreatDoor
open Go.RowKit Go.Shelf Go.Proofs.YtamagdnlicnefaaGreatDoorW.PrintWords Go.Proofs.YtamagdnlicnefaaGreatDoorW.PrintLast Go.Proofs.YtamagdnlicnefaaGreatDoorW.PrintMore
attribute [local go_sem] Oper.semAt_some wide_fn2 wide_depth2

theorem results_ct {fn : Func} {p u : Tmp} {ty : TypeId} (h : fn.results = #[.cell p ty, .tmp u]) (tmps : Array Value) (P : Program) (w : World) (g : Nat) (cs : Array Value)
    (hp : tmps.getD p undef = .pointer (some ⟨g, 0, none⟩)) (hl : (loadVar ty ⟨g, 0, none⟩).run P w = .ok (.agg cs) w) :
    (results fn tmps).run P w = .ok (.tuple #[.agg cs, tmps.getD u undef]) w := by
  rw [results_cell_tmp h, hp]
  simp only [asAddr]
  show ((Sem.run P (pure _) w).andThen _) = _
  simp only [Sem.run_pure, Result.andThen_ok]
  rw [hl]
  rfl
theorem set3 {W : World} {b : Nat} {x y z u0 u1 u2 : Value} (h : W.heap[b]? = some (.cells #[x, y, z] 23 (0, 0))) :
    (((W.setCell ⟨b, 0, none⟩ u0).setCell ⟨b, 1, none⟩ u1).setCell ⟨b, 2, none⟩ u2).heap[b]? = some (.cells #[u0, u1, u2] 23 (0, 0)) ∧ Fr (fun i => i = b) W (((W.setCell ⟨b, 0, none⟩ u0).setCell ⟨b, 1, none⟩ u1).setCell ⟨b, 2, none⟩ u2) := by
  refine ⟨?_, Fr.set (S := fun i => i = b) (Fr.set (S := fun i => i = b) (Fr.set (S := fun i => i = b) (Fr.refl _ _) _ _ (fun _ => rfl)) _ _ (fun _ => rfl)) _ _ (fun _ => rfl)⟩
  have h0 := blk_set h 0 u0
  have h1 := blk_set h0 1 u1
  have h2 := blk_set h1 2 u2
  simpa using h2
theorem ReelIs.fr {S : Nat → Prop} {X Y : World} {g base p : Nat} {v : Value} {bs : List Int} (h : ReelIs X g base v bs p) (hf : Fr S X Y) (hg : ¬ S g) (hv : ∀ r, v.ownBlock = some r → ¬ S r) : ReelIs Y g base v bs p := by
  refine ⟨hf.at h.blk hg, ⟨h.own.1, ?_⟩, h.le, h.small, h.bytes⟩
  rcases h.own.2 with h' | ⟨r, cap, cur, hu, hb, hr, rest⟩
  · exact .inl h'
  · exact .inr ⟨r, cap, cur, hu, hb, hf.at hr (hv r (by rw [hu]; rfl)), rest⟩
end Go.Proofs.YtamagdnlicnefaaGreatDoor
