/-
  DERIVED. GIVEN WITH THE SEED: THE CARDS: each row of YtamagdnlicnefaaGreatDoorRows.lean that lists a variable, with what it lists TIED to the program's text (the seventh form; the later family's looks); each row that meets fmt, with fmt's text TOLD by the authors' own Lean function (tested against real Go, not proved from fmt's source: count such statements apart). THE CARD IS WHAT COUNTS. Prove the row's statement (the work); the ties are given (YtamagdnlicnefaaGreatDoorTie.lean); close each card by the builder's one call (the guide's Derived/Test/ToyasCard.lean, 'card_holds'). Laid BY PROGRAM, IN A SANDBOX (cutbox-door.mjs). By AI agents, Wed Nov 11 2026. No macro, syntax, notation, axiom, sorry.
-/
import Derived.Test.YtamagdnlicnefaaGreatDoorRows
import GoSem.ClaimSeven
namespace Go.Proofs.YtamagdnlicnefaaGreatDoor
namespace Rows

/-- THE TIED CARD OF 'backstaylaw04.OpcodeEffects'. -/
def opcodeEffectsCard : Claim7 := { stood := { row := opcodeEffectsRow, standIns := [], harness := (true, "c8d346b9b8daaf8553f83ceb06282bd900c14f59bfacef38d00913d69155ec89"), looks := true }, kinds := [], alts := [], laidByText := true, laidKinds := [.data, .data, .data, .data, .sentinel, .sentinel, .listed, .data, .pinned], laidTests := true, laidLooks := .later }
def OpcodeEffectsCardSaid : Prop := Claim7.holds Tryz.pinned (.plain (OpenSpec.ofChange opcodeEffectsSpec)) opcodeEffectsCard

/-- THE TIED CARD OF 'backstaylaw04.OpcodeTells'. -/
def opcodeTellsCard : Claim7 := { stood := { row := opcodeTellsRow, standIns := [], harness := (true, "c8d346b9b8daaf8553f83ceb06282bd900c14f59bfacef38d00913d69155ec89"), looks := true }, kinds := [], alts := [], laidByText := true, laidKinds := [.data, .data, .data, .data, .sentinel, .sentinel, .listed, .data, .pinned], laidTests := true, laidLooks := .later }
def OpcodeTellsCardSaid : Prop := Claim7.holds Tryz.pinned (.plain (OpenSpec.ofChange opcodeTellsSpec)) opcodeTellsCard

/-- THE TIED CARD OF 'backstaylaw04.OpcodeNames'. -/
def opcodeNamesCard : Claim7 := { stood := { row := opcodeNamesRow, standIns := [], harness := (true, "c8d346b9b8daaf8553f83ceb06282bd900c14f59bfacef38d00913d69155ec89"), looks := true }, kinds := [], alts := [], laidByText := true, laidKinds := [.data, .data, .data, .data, .sentinel, .sentinel, .listed, .data, .pinned], laidTests := true, laidLooks := .later }
def OpcodeNamesCardSaid : Prop := Claim7.holds Tryz.pinned (.plain (OpenSpec.ofChange opcodeNamesSpec)) opcodeNamesCard

/-- THE SECOND FORM's CARD OF 'backstaylaw04.OpcodeEffects'. -/
def opcodeEffectsUptoCard : Claim7 := { stood := { row := opcodeEffectsUptoRow, standIns := [], harness := (true, "c8d346b9b8daaf8553f83ceb06282bd900c14f59bfacef38d00913d69155ec89"), looks := true }, kinds := [], alts := [], laidByText := true, laidKinds := [.data, .data, .data, .data, .sentinel, .sentinel, .listed, .data, .pinned], laidTests := true, laidLooks := .later }
def OpcodeEffectsUptoCardSaid : Prop := Claim7.holds Tryz.pinned (.plain (OpenSpec.upto opcodeEffectsSpec)) opcodeEffectsUptoCard

/-- THE SECOND FORM's CARD OF 'backstaylaw04.OpcodeTells'. -/
def opcodeTellsUptoCard : Claim7 := { stood := { row := opcodeTellsUptoRow, standIns := [], harness := (true, "c8d346b9b8daaf8553f83ceb06282bd900c14f59bfacef38d00913d69155ec89"), looks := true }, kinds := [], alts := [], laidByText := true, laidKinds := [.data, .data, .data, .data, .sentinel, .sentinel, .listed, .data, .pinned], laidTests := true, laidLooks := .later }
def OpcodeTellsUptoCardSaid : Prop := Claim7.holds Tryz.pinned (.plain (OpenSpec.upto opcodeTellsSpec)) opcodeTellsUptoCard

/-- THE SECOND FORM's CARD OF 'backstaylaw04.OpcodeNames'. -/
def opcodeNamesUptoCard : Claim7 := { stood := { row := opcodeNamesUptoRow, standIns := [], harness := (true, "c8d346b9b8daaf8553f83ceb06282bd900c14f59bfacef38d00913d69155ec89"), looks := true }, kinds := [], alts := [], laidByText := true, laidKinds := [.data, .data, .data, .data, .sentinel, .sentinel, .listed, .data, .pinned], laidTests := true, laidLooks := .later }
def OpcodeNamesUptoCardSaid : Prop := Claim7.holds Tryz.pinned (.plain (OpenSpec.upto opcodeNamesSpec)) opcodeNamesUptoCard
end Rows
end Go.Proofs.YtamagdnlicnefaaGreatDoor
