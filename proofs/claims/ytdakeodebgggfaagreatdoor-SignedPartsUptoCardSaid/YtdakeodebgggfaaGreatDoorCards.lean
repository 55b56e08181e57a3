/-
  DERIVED. GIVEN WITH THE SEED: THE CARDS: each row of YtdakeodebgggfaaGreatDoorRows.lean that lists a variable, with what it lists TIED to the program's text (the seventh form; the later family's looks); each row that meets fmt, with fmt's text TOLD by the authors' own Lean function (tested against real Go, not proved from fmt's source: count such statements apart). THE CARD IS WHAT COUNTS. Prove the row's statement (the work); the ties are given (YtdakeodebgggfaaGreatDoorTie.lean); close each card by the builder's one call (the guide's Derived/Test/ToyasCard.lean, 'card_holds'). Laid BY PROGRAM, IN A SANDBOX (cutbox-door.mjs). By AI agents, Wed Nov 11 2026. No macro, syntax, notation, axiom, sorry.
-/
import Derived.Test.YtdakeodebgggfaaGreatDoorRows
import GoSem.ClaimSeven
namespace Go.Proofs.YtdakeodebgggfaaGreatDoor
namespace Rows

/-- THE TIED CARD OF 'greffierlaw18.SignedRight'. -/
def signedRightCard : Claim7 := { stood := { row := signedRightRow, standIns := [], harness := (true, "ec07667d8f18d97d3287bcf45b6a7d3ac0e768910ea4074e7184fc79b8b88599"), looks := false }, kinds := [], alts := [], laidByText := true, laidKinds := [.data, .data, .data], laidTests := true, laidLooks := .later }
def SignedRightCardSaid : Prop := Claim7.holds Tryz.pinned (.plain (OpenSpec.ofChange signedRightSpec)) signedRightCard

/-- THE TIED CARD OF 'greffierlaw18.SignedParts'. -/
def signedPartsCard : Claim7 := { stood := { row := signedPartsRow, standIns := [], harness := (true, "ec07667d8f18d97d3287bcf45b6a7d3ac0e768910ea4074e7184fc79b8b88599"), looks := false }, kinds := [], alts := [], laidByText := true, laidKinds := [.data, .data, .data], laidTests := true, laidLooks := .later }
def SignedPartsCardSaid : Prop := Claim7.holds Tryz.pinned (.plain (OpenSpec.ofChange signedPartsSpec)) signedPartsCard

/-- THE SECOND FORM's CARD OF 'greffierlaw18.SignedRight'. -/
def signedRightUptoCard : Claim7 := { stood := { row := signedRightUptoRow, standIns := [], harness := (true, "ec07667d8f18d97d3287bcf45b6a7d3ac0e768910ea4074e7184fc79b8b88599"), looks := false }, kinds := [], alts := [], laidByText := true, laidKinds := [.data, .data, .data], laidTests := true, laidLooks := .later }
def SignedRightUptoCardSaid : Prop := Claim7.holds Tryz.pinned (.plain (OpenSpec.upto signedRightSpec)) signedRightUptoCard

/-- THE SECOND FORM's CARD OF 'greffierlaw18.SignedParts'. -/
def signedPartsUptoCard : Claim7 := { stood := { row := signedPartsUptoRow, standIns := [], harness := (true, "ec07667d8f18d97d3287bcf45b6a7d3ac0e768910ea4074e7184fc79b8b88599"), looks := false }, kinds := [], alts := [], laidByText := true, laidKinds := [.data, .data, .data], laidTests := true, laidLooks := .later }
def SignedPartsUptoCardSaid : Prop := Claim7.holds Tryz.pinned (.plain (OpenSpec.upto signedPartsSpec)) signedPartsUptoCard
end Rows
end Go.Proofs.YtdakeodebgggfaaGreatDoor
