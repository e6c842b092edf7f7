/- A table of a row's list is what the variable holds. -/
import Derived.LaidMore
import Derived.Lib.LaidTab
import Derived.Test.YtamagdnlicnefaaGreatDoorKnQa
namespace Go.Proofs.YtamagdnlicnefaaGreatDoor
open Go.RowKit

def tabB (P : Program) (name : String) (k : IntKind) : Bool :=
  match P.globalNamed name with
  | none => false
  | some g =>
    match (P.globals[g]?).map (·.type) with
    | none => false
    | some t =>
      match P.underlying t with
      | some (.array m e) =>
        (match P.underlying e with
        | some (.int k') => decide (k' = k)
        | _ => false) && (decide (P.cellsOf e = 1) && decide (P.cellsOf t = m))
      | _ => false
theorem tabB_spec {P : Program} {name : String} {k : IntKind} (h : tabB P name k = true) : ∃ g t m e, P.globalNamed name = some g ∧ (P.globals[g]?).map (·.type) = some t ∧ P.underlying t = some (.array m e) ∧ P.underlying e = some (.int k) ∧ P.cellsOf e = 1 ∧ P.cellsOf t = m := by
  unfold tabB at h
  split at h
  · cases h
  · rename_i g hg
    split at h
    · cases h
    · rename_i t ht
      split at h
      · rename_i m e hm
        simp only [Bool.and_eq_true, decide_eq_true_eq] at h
        obtain ⟨h1, h2, h3⟩ := h
        split at h1
        · rename_i k' hk
          exact ⟨g, t, m, e, hg, ht, hm, by rw [hk, of_decide_eq_true h1], h2, h3⟩
        · cases h1
      · cases h
theorem laid_mem {P : Program} {W : World} {n : String} {d : DataW Unit} : ∀ {laid : List (String × DataW Unit)} {ps : List MemPlace}, DataW.LaidVars P W laid ps → (n, d) ∈ laid →
    ∃ g t cs fuel p, P.globalNamed n = some g ∧ (P.globals[g]?).map (·.type) = some t ∧ W.var? P n = some cs ∧ DataW.trod (fun _ => ()) P W 0 (fun _ => true) false fuel t cs.toList = some (d, p)
  | [], _, _, hm => nomatch hm
  | (_, _) :: _, _, h, hm => by
    obtain ⟨g, t, cs, fuel, p, q, h1, h2, h3, h4, h5, _⟩ := h
    rcases List.mem_cons.1 hm with e | e
    · injection e with e1 e2
      subst e1; subst e2
      exact ⟨g, t, cs, fuel, p, h1, h2, h3, h4⟩
    · exact laid_mem h5 e
theorem tabIs_of_mem {P : Program} {W : World} {name : String} {k : IntKind} {zs : List Int} {laid : List (String × DataW Unit)} (hB : tabB P name k = true) (hm : (name, Lib.tabData k zs) ∈ laid) (h : laidMet P laid W) : Lib.TabIs P W name k zs := by
  obtain ⟨g, t, m, e, hg, hty, ht, he, hce, hct⟩ := tabB_spec hB
  obtain ⟨ps, hl, _⟩ := h
  obtain ⟨g', t', cs, fuel, p, hg', ht', hvar, hd⟩ := laid_mem hl hm
  obtain rfl := Option.some.inj (hg.symm.trans hg')
  obtain rfl := Option.some.inj (hty.symm.trans ht')
  unfold Lib.TabIs
  rw [hvar, ← Lib.cells_of_tab ht he hce hct hd]
theorem tabs_of {laid : List (String × DataW Unit)} {W : World} (h1 : ("internal/strconv.uint64pow10", Lib.tabData .u64 Lib.pow10Tab) ∈ laid) (h2 : ("strings.asciiSpace", Lib.tabData .u8 Lib.asciiSpaceTab) ∈ laid) (h : laidMet Tryz.prog laid W) : Tabs W :=
  ⟨tabIs_of_mem (by kernel_rfl) h1 h, tabIs_of_mem (by kernel_rfl) h2 h⟩
end Go.Proofs.YtamagdnlicnefaaGreatDoor
