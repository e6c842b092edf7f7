/- The error variables of a row's list hold errors. -/
import Derived.Test.YtamagdnlicnefaaGreatDoorKnQu
import Derived.Test.YtamagdnlicnefaaGreatDoorKnSd
namespace Go.Proofs.YtamagdnlicnefaaGreatDoor
open Go.RowKit
def ifaceB (P : Program) (name : String) (g : Nat) : Bool :=
  decide (P.globalNamed name = some g) && (match (P.globals[g]?).map (·.type) with
    | none => false
    | some t => match P.underlying t with
      | some (.interface _) => true
      | _ => false)
theorem err_of {P : Program} {W : World} {n : String} {g : Nat} {d : DataW Unit} {laid : List (String × DataW Unit)} (hB : ifaceB P n g = true) (hm : (n, d) ∈ laid) (h : laidMet P laid W) : ∃ ev, W.cell? ⟨g, 0, none⟩ = some ev ∧ (ev = .nilIface ∨ ∃ te pe, ev = .iface te pe) := by
  unfold ifaceB at hB
  simp only [Bool.and_eq_true, decide_eq_true_eq] at hB
  obtain ⟨hg, hB⟩ := hB
  obtain ⟨ps, hl, _⟩ := h
  obtain ⟨g', t', cs, fuel, p, hg', ht', hvar, hd⟩ := laid_mem hl hm
  obtain rfl := Option.some.inj (hg.symm.trans hg')
  rw [ht'] at hB
  simp only at hB
  split at hB
  · rename_i ms hms
    obtain ⟨c, hc, hc2⟩ := iface_cell hms hd
    refine ⟨c, ?_, hc2⟩
    rw [World.var?_cell hg hvar 0]
    have : cs = #[c] := by
      apply Array.toList_inj.1
      rw [hc]
    rw [this]
    rfl
  · cases hB
theorem rvars_of {laid : List (String × DataW Unit)} {W : World} {d1 d2 : DataW Unit} (h1 : ("internal/strconv.uint64pow10", Lib.tabData .u64 Lib.pow10Tab) ∈ laid) (h2 : ("strings.asciiSpace", Lib.tabData .u8 Lib.asciiSpaceTab) ∈ laid) (h3 : ("strconv.ErrSyntax", d1) ∈ laid) (h4 : ("strconv.ErrRange", d2) ∈ laid) (h : laidMet Tryz.prog laid W) (hS : W.ShapedOpen Tryz.prog) : RVars W :=
  ⟨tabs_of h1 h2 h, ⟨err_of (by kernel_rfl) h3 h, err_of (by kernel_rfl) h4 h⟩, Tryz.laysM146.s1_3 W hS⟩
end Go.Proofs.YtamagdnlicnefaaGreatDoor
