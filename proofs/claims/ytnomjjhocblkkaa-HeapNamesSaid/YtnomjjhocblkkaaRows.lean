/-
  No cell of these rows narrows 'for every input' (looked for: loops, veiled, ifaces, maps, wideKeys, modest, calm, conditions, laid).
  DERIVED. THE GIVEN ROWS OF THIS SEAT. 5 by the template 'for every input the law returns true; each argument reads behind the call as it read before'; 0 by the template 'total and deterministic' (their statements: YtnomjjhocblkkaaTotals.lean).
  GIVEN WITH THE SEED: the statements are not yours to turn. If you find one false, say at which input.
  Laid BY PROGRAM, IN A SANDBOX (cutbox-rows.mjs): the forced cells as the released guide's own fill.sh prints them over the translation 2fcad0815ce545f1… (all of the seat's roots in one cut). By AI agents, Wed Nov 11 2026. No macro, syntax, notation, axiom, sorry.
-/
import Derived.Test.YtnomjjhocblkkaaChecked
import GoSem.Claim
import GoSem.ClaimJoined
import GoSem.ClaimMapViews
import Derived.JoinedTies
import Derived.KernelRfl
namespace Go.Proofs.Ytnomjjhocblkkaa
/- THE CELL 'sum', in the pinned program and in every row, IS THE sha256 OF THE DUMP (.gsa) THAT YtnomjjhocblkkaaProg.lean LOADS. Nothing in Lean hashes anything: it is a label: what it is worth is what the hold of that sum in a sandbox is worth. -/
noncomputable def Try.pinned : Pinned := { name := "ytnomjjhocblkkaa", sum := "2fcad0815ce545f1b6f5849aec28959c62e8d908b06c5d951da272c638fc828a", checked := Try.checked }
namespace Rows
def none {H : Type} : Left H := { results := [], args := [] }

/-- 'backstaylaw15.HeapKeeps': WHATEVER THE INPUT: true; the input reads as it did. -/
def heapKeepsSpec : ChangeSpec := { name := "heapKeeps", fn := fun _ => fun
  | [d1, d2, d3] => { results := [.lit (.bool true)], args := [d1, d2, d3] }
  | _ => none }
def heapKeepsRow : OpenClaim := { program := "ytnomjjhocblkkaa", sum := "2fcad0815ce545f1b6f5849aec28959c62e8d908b06c5d951da272c638fc828a", func := "backstay/backstaylaw15.HeapKeeps", spec := "heapKeeps", unfollowed := true, recurses := true, plainKeys := false, apart := false }
def HeapKeepsSaid : Prop := heapKeepsRow.holds Try.pinned (OpenSpec.ofChange heapKeepsSpec)

/-- ITS FALSE NEIGHBOUR: 'it returns false'. Refute it at one input. -/
def heapKeepsWrong : ChangeSpec := { name := "heapKeeps", fn := fun _ => fun
  | [d1, d2, d3] => { results := [.lit (.bool false)], args := [d1, d2, d3] }
  | _ => none }
def HeapKeepsWrongFalsely : Prop := heapKeepsRow.holds Try.pinned (OpenSpec.ofChange heapKeepsWrong)

/-- 'backstaylaw15.HeapCodes': WHATEVER THE INPUT: true; the input reads as it did. -/
def heapCodesSpec : ChangeSpec := { name := "heapCodes", fn := fun _ => fun
  | [d1, d2, d3, d4, d5] => { results := [.lit (.bool true)], args := [d1, d2, d3, d4, d5] }
  | _ => none }
def heapCodesRow : OpenClaim := { program := "ytnomjjhocblkkaa", sum := "2fcad0815ce545f1b6f5849aec28959c62e8d908b06c5d951da272c638fc828a", func := "backstay/backstaylaw15.HeapCodes", spec := "heapCodes", unfollowed := true, recurses := true, plainKeys := false, apart := false }
def HeapCodesSaid : Prop := heapCodesRow.holds Try.pinned (OpenSpec.ofChange heapCodesSpec)

/-- ITS FALSE NEIGHBOUR: 'it returns false'. Refute it at one input. -/
def heapCodesWrong : ChangeSpec := { name := "heapCodes", fn := fun _ => fun
  | [d1, d2, d3, d4, d5] => { results := [.lit (.bool false)], args := [d1, d2, d3, d4, d5] }
  | _ => none }
def HeapCodesWrongFalsely : Prop := heapCodesRow.holds Try.pinned (OpenSpec.ofChange heapCodesWrong)

/-- 'backstaylaw15.HeapSound': WHATEVER THE INPUT: true; the input reads as it did. -/
def heapSoundSpec : ChangeSpec := { name := "heapSound", fn := fun _ => fun
  | [d1, d2, d3] => { results := [.lit (.bool true)], args := [d1, d2, d3] }
  | _ => none }
def heapSoundRow : OpenClaim := { program := "ytnomjjhocblkkaa", sum := "2fcad0815ce545f1b6f5849aec28959c62e8d908b06c5d951da272c638fc828a", func := "backstay/backstaylaw15.HeapSound", spec := "heapSound", unfollowed := true, recurses := true, plainKeys := false, apart := false }
def HeapSoundSaid : Prop := heapSoundRow.holds Try.pinned (OpenSpec.ofChange heapSoundSpec)

/-- ITS FALSE NEIGHBOUR: 'it returns false'. Refute it at one input. -/
def heapSoundWrong : ChangeSpec := { name := "heapSound", fn := fun _ => fun
  | [d1, d2, d3] => { results := [.lit (.bool false)], args := [d1, d2, d3] }
  | _ => none }
def HeapSoundWrongFalsely : Prop := heapSoundRow.holds Try.pinned (OpenSpec.ofChange heapSoundWrong)

/-- 'backstaylaw15.HeapPlays': WHATEVER THE INPUT: true; the input reads as it did. -/
def heapPlaysSpec : ChangeSpec := { name := "heapPlays", fn := fun _ => fun
  | [d1, d2, d3] => { results := [.lit (.bool true)], args := [d1, d2, d3] }
  | _ => none }
def heapPlaysRow : OpenClaim := { program := "ytnomjjhocblkkaa", sum := "2fcad0815ce545f1b6f5849aec28959c62e8d908b06c5d951da272c638fc828a", func := "backstay/backstaylaw15.HeapPlays", spec := "heapPlays", inPlace := ["maps.clone"], unfollowed := true, recurses := true, plainKeys := false, apart := false }
def HeapPlaysSaid : Prop := heapPlaysRow.holds Try.pinned (OpenSpec.ofChange heapPlaysSpec)

/-- ITS FALSE NEIGHBOUR: 'it returns false'. Refute it at one input. -/
def heapPlaysWrong : ChangeSpec := { name := "heapPlays", fn := fun _ => fun
  | [d1, d2, d3] => { results := [.lit (.bool false)], args := [d1, d2, d3] }
  | _ => none }
def HeapPlaysWrongFalsely : Prop := heapPlaysRow.holds Try.pinned (OpenSpec.ofChange heapPlaysWrong)

/-- 'backstaylaw15.HeapNames': WHATEVER THE INPUT: true; the input reads as it did. -/
def heapNamesSpec : ChangeSpec := { name := "heapNames", fn := fun _ => fun
  | [] => { results := [.lit (.bool true)], args := [] }
  | _ => none }
def heapNamesRow : OpenClaim := { program := "ytnomjjhocblkkaa", sum := "2fcad0815ce545f1b6f5849aec28959c62e8d908b06c5d951da272c638fc828a", func := "backstay/backstaylaw15.HeapNames", spec := "heapNames", inPlace := ["maps.clone"], unfollowed := true, recurses := true, plainKeys := false, apart := false }
def HeapNamesSaid : Prop := heapNamesRow.holds Try.pinned (OpenSpec.ofChange heapNamesSpec)

/-- ITS FALSE NEIGHBOUR: 'it returns false'. Refute it at one input. -/
def heapNamesWrong : ChangeSpec := { name := "heapNames", fn := fun _ => fun
  | [] => { results := [.lit (.bool false)], args := [] }
  | _ => none }
def HeapNamesWrongFalsely : Prop := heapNamesRow.holds Try.pinned (OpenSpec.ofChange heapNamesWrong)

/- THE SECOND FORM. 'bulk': how many values and letters a reading holds, each counted each time it is reached (what is shared counts as often as it is met; a slice's spare places count too). A statement '..UptoSaid' is the law's where the arguments, and the package variables that the reading takes, are together of bulk at most 1048576: NARROWER than '..Said'. Prove '..Said' where nothing that the law and all that it calls make is longer than what came in: it says more and counts as full. Else prove '..UptoSaid'. A law counts once. -/
mutual
def uptoBulk {H : Type} : DataW H → Nat
  | .lit (.string bytes) => bytes.length + 1
  | .lit _ => 1
  | .nil => 1
  | .ptr d => uptoBulk d + 1
  | .slice elems spare => uptoBulkAll elems + uptoBulkAll spare + 1
  | .agg parts => uptoBulkAll parts + 1
  | .iface _ d => uptoBulk d + 1
  | .map entries => uptoBulkEntries entries + 1
  | .held _ => 1
def uptoBulkAll {H : Type} : List (DataW H) → Nat
  | [] => 0
  | d :: r => uptoBulk d + uptoBulkAll r
def uptoBulkEntries {H : Type} : List (Lit × DataW H) → Nat
  | [] => 0
  | x :: r => uptoBulkEntry x + uptoBulkEntries r
def uptoBulkEntry {H : Type} : Lit × DataW H → Nat
  | (.string bytes, d) => bytes.length + uptoBulk d + 1
  | (_, d) => uptoBulk d + 1
 end
def uptoSmall : (H : Type) → List (DataW H) → Bool := fun _ ds => decide (uptoBulkAll ds ≤ 1048576)
def OpenSpec.upto (s : _root_.Go.ChangeSpec) : _root_.Go.OpenSpec := { _root_.Go.OpenSpec.ofChange s with cond := some uptoSmall }

/-- 'backstaylaw15.HeapKeeps', WHERE WHAT IT READS IS OF BULK AT MOST 1048576: true; the input reads as it did. -/
def heapKeepsUptoRow : OpenClaim := { program := "ytnomjjhocblkkaa", sum := "2fcad0815ce545f1b6f5849aec28959c62e8d908b06c5d951da272c638fc828a", func := "backstay/backstaylaw15.HeapKeeps", spec := "heapKeeps", unfollowed := true, recurses := true, plainKeys := false, apart := false, narrowed := true }
def HeapKeepsUptoSaid : Prop := heapKeepsUptoRow.holds Try.pinned (OpenSpec.upto heapKeepsSpec)

/-- 'backstaylaw15.HeapCodes', WHERE WHAT IT READS IS OF BULK AT MOST 1048576: true; the input reads as it did. -/
def heapCodesUptoRow : OpenClaim := { program := "ytnomjjhocblkkaa", sum := "2fcad0815ce545f1b6f5849aec28959c62e8d908b06c5d951da272c638fc828a", func := "backstay/backstaylaw15.HeapCodes", spec := "heapCodes", unfollowed := true, recurses := true, plainKeys := false, apart := false, narrowed := true }
def HeapCodesUptoSaid : Prop := heapCodesUptoRow.holds Try.pinned (OpenSpec.upto heapCodesSpec)

/-- 'backstaylaw15.HeapSound', WHERE WHAT IT READS IS OF BULK AT MOST 1048576: true; the input reads as it did. -/
def heapSoundUptoRow : OpenClaim := { program := "ytnomjjhocblkkaa", sum := "2fcad0815ce545f1b6f5849aec28959c62e8d908b06c5d951da272c638fc828a", func := "backstay/backstaylaw15.HeapSound", spec := "heapSound", unfollowed := true, recurses := true, plainKeys := false, apart := false, narrowed := true }
def HeapSoundUptoSaid : Prop := heapSoundUptoRow.holds Try.pinned (OpenSpec.upto heapSoundSpec)

/-- 'backstaylaw15.HeapPlays', WHERE WHAT IT READS IS OF BULK AT MOST 1048576: true; the input reads as it did. -/
def heapPlaysUptoRow : OpenClaim := { program := "ytnomjjhocblkkaa", sum := "2fcad0815ce545f1b6f5849aec28959c62e8d908b06c5d951da272c638fc828a", func := "backstay/backstaylaw15.HeapPlays", spec := "heapPlays", inPlace := ["maps.clone"], unfollowed := true, recurses := true, plainKeys := false, apart := false, narrowed := true }
def HeapPlaysUptoSaid : Prop := heapPlaysUptoRow.holds Try.pinned (OpenSpec.upto heapPlaysSpec)

/-- 'backstaylaw15.HeapNames', WHERE WHAT IT READS IS OF BULK AT MOST 1048576: true; the input reads as it did. -/
def heapNamesUptoRow : OpenClaim := { program := "ytnomjjhocblkkaa", sum := "2fcad0815ce545f1b6f5849aec28959c62e8d908b06c5d951da272c638fc828a", func := "backstay/backstaylaw15.HeapNames", spec := "heapNames", inPlace := ["maps.clone"], unfollowed := true, recurses := true, plainKeys := false, apart := false, narrowed := true }
def HeapNamesUptoSaid : Prop := heapNamesUptoRow.holds Try.pinned (OpenSpec.upto heapNamesSpec)

end Rows
end Go.Proofs.Ytnomjjhocblkkaa
