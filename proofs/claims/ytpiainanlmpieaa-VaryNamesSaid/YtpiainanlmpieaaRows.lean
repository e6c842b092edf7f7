/-
  No cell of these rows narrows 'for every input' (looked for: loops, veiled, ifaces, maps, wideKeys, modest, calm, conditions, laid).
  DERIVED. THE GIVEN ROWS OF THIS SEAT. 7 by the template 'for every input the law returns true; each argument reads behind the call as it read before'; 0 by the template 'total and deterministic' (their statements: YtpiainanlmpieaaTotals.lean).
  GIVEN WITH THE SEED: the statements are not yours to turn. If you find one false, say at which input.
  Laid BY PROGRAM, IN A SANDBOX (cutbox-rows.mjs): the forced cells as the released guide's own fill.sh prints them over the translation 76c95829a13abb13… (all of the seat's roots in one cut). By AI agents, Wed Nov 11 2026. No macro, syntax, notation, axiom, sorry.
-/
import Derived.Test.YtpiainanlmpieaaChecked
import GoSem.Claim
import GoSem.ClaimJoined
import GoSem.ClaimMapViews
import Derived.JoinedTies
import Derived.KernelRfl
namespace Go.Proofs.Ytpiainanlmpieaa
/- THE CELL 'sum', in the pinned program and in every row, IS THE sha256 OF THE DUMP (.gsa) THAT YtpiainanlmpieaaProg.lean LOADS. Nothing in Lean hashes anything: it is a label: what it is worth is what the hold of that sum in a sandbox is worth. -/
noncomputable def Try.pinned : Pinned := { name := "ytpiainanlmpieaa", sum := "76c95829a13abb1321e3f5aa196b8e99d7eccd5b5ce8e20145fda790e393b00d", checked := Try.checked }
namespace Rows
def none {H : Type} : Left H := { results := [], args := [] }

/-- 'backstaylaw01.VaryOrder': WHATEVER THE INPUT: true; the input reads as it did. -/
def varyOrderSpec : ChangeSpec := { name := "varyOrder", fn := fun _ => fun
  | [d1, d2] => { results := [.lit (.bool true)], args := [d1, d2] }
  | _ => none }
def varyOrderRow : OpenClaim := { program := "ytpiainanlmpieaa", sum := "76c95829a13abb1321e3f5aa196b8e99d7eccd5b5ce8e20145fda790e393b00d", func := "backstay/backstaylaw01.VaryOrder", spec := "varyOrder", unfollowed := true, recurses := true, apart := false }
def VaryOrderSaid : Prop := varyOrderRow.holds Try.pinned (OpenSpec.ofChange varyOrderSpec)

/-- ITS FALSE NEIGHBOUR: 'it returns false'. Refute it at one input. -/
def varyOrderWrong : ChangeSpec := { name := "varyOrder", fn := fun _ => fun
  | [d1, d2] => { results := [.lit (.bool false)], args := [d1, d2] }
  | _ => none }
def VaryOrderWrongFalsely : Prop := varyOrderRow.holds Try.pinned (OpenSpec.ofChange varyOrderWrong)

/-- 'backstaylaw01.VaryWrites': WHATEVER THE INPUT: true; the input reads as it did. -/
def varyWritesSpec : ChangeSpec := { name := "varyWrites", fn := fun _ => fun
  | [d] => { results := [.lit (.bool true)], args := [d] }
  | _ => none }
def varyWritesRow : OpenClaim := { program := "ytpiainanlmpieaa", sum := "76c95829a13abb1321e3f5aa196b8e99d7eccd5b5ce8e20145fda790e393b00d", func := "backstay/backstaylaw01.VaryWrites", spec := "varyWrites", unfollowed := true, recurses := true, apart := false }
def VaryWritesSaid : Prop := varyWritesRow.holds Try.pinned (OpenSpec.ofChange varyWritesSpec)

/-- ITS FALSE NEIGHBOUR: 'it returns false'. Refute it at one input. -/
def varyWritesWrong : ChangeSpec := { name := "varyWrites", fn := fun _ => fun
  | [d] => { results := [.lit (.bool false)], args := [d] }
  | _ => none }
def VaryWritesWrongFalsely : Prop := varyWritesRow.holds Try.pinned (OpenSpec.ofChange varyWritesWrong)

/-- 'backstaylaw01.VaryForms': WHATEVER THE INPUT: true; the input reads as it did. -/
def varyFormsSpec : ChangeSpec := { name := "varyForms", fn := fun _ => fun
  | [d1, d2] => { results := [.lit (.bool true)], args := [d1, d2] }
  | _ => none }
def varyFormsRow : OpenClaim := { program := "ytpiainanlmpieaa", sum := "76c95829a13abb1321e3f5aa196b8e99d7eccd5b5ce8e20145fda790e393b00d", func := "backstay/backstaylaw01.VaryForms", spec := "varyForms", unfollowed := true, recurses := true, apart := false }
def VaryFormsSaid : Prop := varyFormsRow.holds Try.pinned (OpenSpec.ofChange varyFormsSpec)

/-- ITS FALSE NEIGHBOUR: 'it returns false'. Refute it at one input. -/
def varyFormsWrong : ChangeSpec := { name := "varyForms", fn := fun _ => fun
  | [d1, d2] => { results := [.lit (.bool false)], args := [d1, d2] }
  | _ => none }
def VaryFormsWrongFalsely : Prop := varyFormsRow.holds Try.pinned (OpenSpec.ofChange varyFormsWrong)

/-- 'backstaylaw01.VaryZigs': WHATEVER THE INPUT: true; the input reads as it did. -/
def varyZigsSpec : ChangeSpec := { name := "varyZigs", fn := fun _ => fun
  | [d1, d2, d3, d4, d5] => { results := [.lit (.bool true)], args := [d1, d2, d3, d4, d5] }
  | _ => none }
def varyZigsRow : OpenClaim := { program := "ytpiainanlmpieaa", sum := "76c95829a13abb1321e3f5aa196b8e99d7eccd5b5ce8e20145fda790e393b00d", func := "backstay/backstaylaw01.VaryZigs", spec := "varyZigs", unfollowed := true, recurses := true, apart := false }
def VaryZigsSaid : Prop := varyZigsRow.holds Try.pinned (OpenSpec.ofChange varyZigsSpec)

/-- ITS FALSE NEIGHBOUR: 'it returns false'. Refute it at one input. -/
def varyZigsWrong : ChangeSpec := { name := "varyZigs", fn := fun _ => fun
  | [d1, d2, d3, d4, d5] => { results := [.lit (.bool false)], args := [d1, d2, d3, d4, d5] }
  | _ => none }
def VaryZigsWrongFalsely : Prop := varyZigsRow.holds Try.pinned (OpenSpec.ofChange varyZigsWrong)

/-- 'backstaylaw01.VaryReads': WHATEVER THE INPUT: true; the input reads as it did. -/
def varyReadsSpec : ChangeSpec := { name := "varyReads", fn := fun _ => fun
  | [d1, d2] => { results := [.lit (.bool true)], args := [d1, d2] }
  | _ => none }
def varyReadsRow : OpenClaim := { program := "ytpiainanlmpieaa", sum := "76c95829a13abb1321e3f5aa196b8e99d7eccd5b5ce8e20145fda790e393b00d", func := "backstay/backstaylaw01.VaryReads", spec := "varyReads", unfollowed := true, recurses := true, apart := false }
def VaryReadsSaid : Prop := varyReadsRow.holds Try.pinned (OpenSpec.ofChange varyReadsSpec)

/-- ITS FALSE NEIGHBOUR: 'it returns false'. Refute it at one input. -/
def varyReadsWrong : ChangeSpec := { name := "varyReads", fn := fun _ => fun
  | [d1, d2] => { results := [.lit (.bool false)], args := [d1, d2] }
  | _ => none }
def VaryReadsWrongFalsely : Prop := varyReadsRow.holds Try.pinned (OpenSpec.ofChange varyReadsWrong)

/-- 'backstaylaw01.VaryBack': WHATEVER THE INPUT: true; the input reads as it did. -/
def varyBackSpec : ChangeSpec := { name := "varyBack", fn := fun _ => fun
  | [d1, d2] => { results := [.lit (.bool true)], args := [d1, d2] }
  | _ => none }
def varyBackRow : OpenClaim := { program := "ytpiainanlmpieaa", sum := "76c95829a13abb1321e3f5aa196b8e99d7eccd5b5ce8e20145fda790e393b00d", func := "backstay/backstaylaw01.VaryBack", spec := "varyBack", unfollowed := true, recurses := true, apart := false }
def VaryBackSaid : Prop := varyBackRow.holds Try.pinned (OpenSpec.ofChange varyBackSpec)

/-- ITS FALSE NEIGHBOUR: 'it returns false'. Refute it at one input. -/
def varyBackWrong : ChangeSpec := { name := "varyBack", fn := fun _ => fun
  | [d1, d2] => { results := [.lit (.bool false)], args := [d1, d2] }
  | _ => none }
def VaryBackWrongFalsely : Prop := varyBackRow.holds Try.pinned (OpenSpec.ofChange varyBackWrong)

/-- 'backstaylaw01.VaryNames': WHATEVER THE INPUT: true; the input reads as it did. -/
def varyNamesSpec : ChangeSpec := { name := "varyNames", fn := fun _ => fun
  | [] => { results := [.lit (.bool true)], args := [] }
  | _ => none }
def varyNamesRow : OpenClaim := { program := "ytpiainanlmpieaa", sum := "76c95829a13abb1321e3f5aa196b8e99d7eccd5b5ce8e20145fda790e393b00d", func := "backstay/backstaylaw01.VaryNames", spec := "varyNames", inPlace := ["internal/abi.NoEscape", "internal/bytealg.MakeNoZero"], unfollowed := true, recurses := true, apart := false }
def VaryNamesSaid : Prop := varyNamesRow.holds Try.pinned (OpenSpec.ofChange varyNamesSpec)

/-- ITS FALSE NEIGHBOUR: 'it returns false'. Refute it at one input. -/
def varyNamesWrong : ChangeSpec := { name := "varyNames", fn := fun _ => fun
  | [] => { results := [.lit (.bool false)], args := [] }
  | _ => none }
def VaryNamesWrongFalsely : Prop := varyNamesRow.holds Try.pinned (OpenSpec.ofChange varyNamesWrong)

/- THE SECOND FORM. 'bulk': how many values and letters a reading holds, each counted each time it is reached (what is shared counts as often as it is met; a slice's spare places count too). A statement '..UptoSaid' is the law's where the arguments, and the package variables that the reading takes, are together of bulk at most 1048576: NARROWER than '..Said'. Prove '..Said' where nothing that the law and all that it calls make is longer than what came in: it says more and counts as full. Else prove '..UptoSaid'. A law counts once. -/
mutual
def uptoBulk {H : Type} : DataW H → Nat
  | .lit (.string bytes) => bytes.length + 1
  | .lit _ => 1
  | .nil => 1
  | .ptr d => uptoBulk d + 1
  | .slice elems spare => uptoBulkAll elems + uptoBulkAll spare + 1
  | .agg parts => uptoBulkAll parts + 1
  | .iface _ d => uptoBulk d + 1
  | .map entries => uptoBulkEntries entries + 1
  | .held _ => 1
def uptoBulkAll {H : Type} : List (DataW H) → Nat
  | [] => 0
  | d :: r => uptoBulk d + uptoBulkAll r
def uptoBulkEntries {H : Type} : List (Lit × DataW H) → Nat
  | [] => 0
  | x :: r => uptoBulkEntry x + uptoBulkEntries r
def uptoBulkEntry {H : Type} : Lit × DataW H → Nat
  | (.string bytes, d) => bytes.length + uptoBulk d + 1
  | (_, d) => uptoBulk d + 1
 end
def uptoSmall : (H : Type) → List (DataW H) → Bool := fun _ ds => decide (uptoBulkAll ds ≤ 1048576)
def OpenSpec.upto (s : _root_.Go.ChangeSpec) : _root_.Go.OpenSpec := { _root_.Go.OpenSpec.ofChange s with cond := some uptoSmall }

/-- 'backstaylaw01.VaryOrder', WHERE WHAT IT READS IS OF BULK AT MOST 1048576: true; the input reads as it did. -/
def varyOrderUptoRow : OpenClaim := { program := "ytpiainanlmpieaa", sum := "76c95829a13abb1321e3f5aa196b8e99d7eccd5b5ce8e20145fda790e393b00d", func := "backstay/backstaylaw01.VaryOrder", spec := "varyOrder", unfollowed := true, recurses := true, apart := false, narrowed := true }
def VaryOrderUptoSaid : Prop := varyOrderUptoRow.holds Try.pinned (OpenSpec.upto varyOrderSpec)

/-- 'backstaylaw01.VaryWrites', WHERE WHAT IT READS IS OF BULK AT MOST 1048576: true; the input reads as it did. -/
def varyWritesUptoRow : OpenClaim := { program := "ytpiainanlmpieaa", sum := "76c95829a13abb1321e3f5aa196b8e99d7eccd5b5ce8e20145fda790e393b00d", func := "backstay/backstaylaw01.VaryWrites", spec := "varyWrites", unfollowed := true, recurses := true, apart := false, narrowed := true }
def VaryWritesUptoSaid : Prop := varyWritesUptoRow.holds Try.pinned (OpenSpec.upto varyWritesSpec)

/-- 'backstaylaw01.VaryForms', WHERE WHAT IT READS IS OF BULK AT MOST 1048576: true; the input reads as it did. -/
def varyFormsUptoRow : OpenClaim := { program := "ytpiainanlmpieaa", sum := "76c95829a13abb1321e3f5aa196b8e99d7eccd5b5ce8e20145fda790e393b00d", func := "backstay/backstaylaw01.VaryForms", spec := "varyForms", unfollowed := true, recurses := true, apart := false, narrowed := true }
def VaryFormsUptoSaid : Prop := varyFormsUptoRow.holds Try.pinned (OpenSpec.upto varyFormsSpec)

/-- 'backstaylaw01.VaryZigs', WHERE WHAT IT READS IS OF BULK AT MOST 1048576: true; the input reads as it did. -/
def varyZigsUptoRow : OpenClaim := { program := "ytpiainanlmpieaa", sum := "76c95829a13abb1321e3f5aa196b8e99d7eccd5b5ce8e20145fda790e393b00d", func := "backstay/backstaylaw01.VaryZigs", spec := "varyZigs", unfollowed := true, recurses := true, apart := false, narrowed := true }
def VaryZigsUptoSaid : Prop := varyZigsUptoRow.holds Try.pinned (OpenSpec.upto varyZigsSpec)

/-- 'backstaylaw01.VaryReads', WHERE WHAT IT READS IS OF BULK AT MOST 1048576: true; the input reads as it did. -/
def varyReadsUptoRow : OpenClaim := { program := "ytpiainanlmpieaa", sum := "76c95829a13abb1321e3f5aa196b8e99d7eccd5b5ce8e20145fda790e393b00d", func := "backstay/backstaylaw01.VaryReads", spec := "varyReads", unfollowed := true, recurses := true, apart := false, narrowed := true }
def VaryReadsUptoSaid : Prop := varyReadsUptoRow.holds Try.pinned (OpenSpec.upto varyReadsSpec)

/-- 'backstaylaw01.VaryBack', WHERE WHAT IT READS IS OF BULK AT MOST 1048576: true; the input reads as it did. -/
def varyBackUptoRow : OpenClaim := { program := "ytpiainanlmpieaa", sum := "76c95829a13abb1321e3f5aa196b8e99d7eccd5b5ce8e20145fda790e393b00d", func := "backstay/backstaylaw01.VaryBack", spec := "varyBack", unfollowed := true, recurses := true, apart := false, narrowed := true }
def VaryBackUptoSaid : Prop := varyBackUptoRow.holds Try.pinned (OpenSpec.upto varyBackSpec)

/-- 'backstaylaw01.VaryNames', WHERE WHAT IT READS IS OF BULK AT MOST 1048576: true; the input reads as it did. -/
def varyNamesUptoRow : OpenClaim := { program := "ytpiainanlmpieaa", sum := "76c95829a13abb1321e3f5aa196b8e99d7eccd5b5ce8e20145fda790e393b00d", func := "backstay/backstaylaw01.VaryNames", spec := "varyNames", inPlace := ["internal/abi.NoEscape", "internal/bytealg.MakeNoZero"], unfollowed := true, recurses := true, apart := false, narrowed := true }
def VaryNamesUptoSaid : Prop := varyNamesUptoRow.holds Try.pinned (OpenSpec.upto varyNamesSpec)

end Rows
end Go.Proofs.Ytpiainanlmpieaa
