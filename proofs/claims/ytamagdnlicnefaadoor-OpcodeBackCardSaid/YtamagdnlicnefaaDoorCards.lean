/-
  DERIVED. GIVEN WITH THE SEED: THE CARDS: each row of YtamagdnlicnefaaDoorRows.lean that lists a variable, with what it lists TIED to the program's text (the seventh form; the later family's looks); each row that meets fmt, with fmt's text TOLD by the authors' own Lean function (tested against real Go, not proved from fmt's source: count such statements apart). THE CARD IS WHAT COUNTS. Prove the row's statement (the work); the ties are given (YtamagdnlicnefaaDoorTie.lean); close each card by the builder's one call (the guide's Derived/Test/ToyasCard.lean, 'card_holds'). Laid BY PROGRAM, IN A SANDBOX (cutbox-door.mjs). By AI agents, Wed Nov 11 2026. No macro, syntax, notation, axiom, sorry.
-/
import Derived.Test.YtamagdnlicnefaaDoorRows
import GoSem.ClaimSeven
namespace Go.Proofs.YtamagdnlicnefaaDoor
namespace Rows

/-- THE TIED CARD OF 'backstaylaw04.OpcodeUnlike'. -/
def opcodeUnlikeCard : Claim7 := { stood := { row := opcodeUnlikeRow, standIns := [], harness := (true, "af6d310c5609c98107539e9555a9db9d05da2f5c77b1ed83a2cf5165125a25b3"), looks := true }, kinds := [], alts := [], laidByText := true, laidKinds := [.data, .data, .data, .sentinel, .sentinel, .listed, .data], laidTests := true, laidLooks := .later }
def OpcodeUnlikeCardSaid : Prop := Claim7.holds Tryd.pinned (.plain (OpenSpec.ofChange opcodeUnlikeSpec)) opcodeUnlikeCard

/-- THE TIED CARD OF 'backstaylaw04.OpcodeForms'. -/
def opcodeFormsCard : Claim7 := { stood := { row := opcodeFormsRow, standIns := [], harness := (true, "af6d310c5609c98107539e9555a9db9d05da2f5c77b1ed83a2cf5165125a25b3"), looks := true }, kinds := [], alts := [], laidByText := true, laidKinds := [.data, .data, .data, .sentinel, .sentinel, .listed, .data], laidTests := true, laidLooks := .later }
def OpcodeFormsCardSaid : Prop := Claim7.holds Tryd.pinned (.plain (OpenSpec.ofChange opcodeFormsSpec)) opcodeFormsCard

/-- THE TIED CARD OF 'backstaylaw04.OpcodeBack'. -/
def opcodeBackCard : Claim7 := { stood := { row := opcodeBackRow, standIns := [], harness := (true, "af6d310c5609c98107539e9555a9db9d05da2f5c77b1ed83a2cf5165125a25b3"), looks := true }, kinds := [], alts := [], laidByText := true, laidKinds := [.data, .data, .data, .data, .sentinel, .sentinel, .listed, .data, .pinned], laidTests := true, laidLooks := .later }
def OpcodeBackCardSaid : Prop := Claim7.holds Tryd.pinned (.plain (OpenSpec.ofChange opcodeBackSpec)) opcodeBackCard

/-- THE SECOND FORM's CARD OF 'backstaylaw04.OpcodeUnlike'. -/
def opcodeUnlikeUptoCard : Claim7 := { stood := { row := opcodeUnlikeUptoRow, standIns := [], harness := (true, "af6d310c5609c98107539e9555a9db9d05da2f5c77b1ed83a2cf5165125a25b3"), looks := true }, kinds := [], alts := [], laidByText := true, laidKinds := [.data, .data, .data, .sentinel, .sentinel, .listed, .data], laidTests := true, laidLooks := .later }
def OpcodeUnlikeUptoCardSaid : Prop := Claim7.holds Tryd.pinned (.plain (OpenSpec.upto opcodeUnlikeSpec)) opcodeUnlikeUptoCard

/-- THE SECOND FORM's CARD OF 'backstaylaw04.OpcodeForms'. -/
def opcodeFormsUptoCard : Claim7 := { stood := { row := opcodeFormsUptoRow, standIns := [], harness := (true, "af6d310c5609c98107539e9555a9db9d05da2f5c77b1ed83a2cf5165125a25b3"), looks := true }, kinds := [], alts := [], laidByText := true, laidKinds := [.data, .data, .data, .sentinel, .sentinel, .listed, .data], laidTests := true, laidLooks := .later }
def OpcodeFormsUptoCardSaid : Prop := Claim7.holds Tryd.pinned (.plain (OpenSpec.upto opcodeFormsSpec)) opcodeFormsUptoCard

/-- THE SECOND FORM's CARD OF 'backstaylaw04.OpcodeBack'. -/
def opcodeBackUptoCard : Claim7 := { stood := { row := opcodeBackUptoRow, standIns := [], harness := (true, "af6d310c5609c98107539e9555a9db9d05da2f5c77b1ed83a2cf5165125a25b3"), looks := true }, kinds := [], alts := [], laidByText := true, laidKinds := [.data, .data, .data, .data, .sentinel, .sentinel, .listed, .data, .pinned], laidTests := true, laidLooks := .later }
def OpcodeBackUptoCardSaid : Prop := Claim7.holds Tryd.pinned (.plain (OpenSpec.upto opcodeBackSpec)) opcodeBackUptoCard
end Rows
end Go.Proofs.YtamagdnlicnefaaDoor
