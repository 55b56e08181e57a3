/-
  DERIVED. GIVEN WITH THE SEED: THE CARDS: each row of YtbeghpkkpnbkgaaGreatDoorRows.lean that lists a variable, with what it lists TIED to the program's text (the seventh form; the later family's looks); each row that meets fmt, with fmt's text TOLD by the authors' own Lean function (tested against real Go, not proved from fmt's source: count such statements apart). THE CARD IS WHAT COUNTS. Prove the row's statement (the work); the ties are given (YtbeghpkkpnbkgaaGreatDoorTie.lean); close each card by the builder's one call (the guide's Derived/Test/ToyasCard.lean, 'card_holds'). Laid BY PROGRAM, IN A SANDBOX (cutbox-door.mjs). By AI agents, Wed Nov 11 2026. No macro, syntax, notation, axiom, sorry.
-/
import Derived.Test.YtbeghpkkpnbkgaaGreatDoorRows
import GoSem.ClaimSeven
namespace Go.Proofs.YtbeghpkkpnbkgaaGreatDoor
namespace Rows

/-- THE TIED CARD OF 'greffierlaw12.TagLists'. -/
def tagListsCard : Claim7 := { stood := { row := tagListsRow, standIns := [], harness := (true, "8b9b5d9c65d1c2cdcdc096a229f7bd2e3f50a40fd6b4656bb6264d5186115611"), looks := true }, kinds := [], alts := [], laidByText := true, laidKinds := [.data, .data, .data, .data, .pinned], laidTests := true, laidLooks := .later }
def TagListsCardSaid : Prop := Claim7.holds Tryz.pinned (.plain (OpenSpec.ofChange tagListsSpec)) tagListsCard

/-- THE TIED CARD OF 'greffierlaw12.TagSame'. -/
def tagSameCard : Claim7 := { stood := { row := tagSameRow, standIns := [], harness := (true, "8b9b5d9c65d1c2cdcdc096a229f7bd2e3f50a40fd6b4656bb6264d5186115611"), looks := true }, kinds := [], alts := [], laidByText := true, laidKinds := [.data, .data, .data, .data, .pinned], laidTests := true, laidLooks := .later }
def TagSameCardSaid : Prop := Claim7.holds Tryz.pinned (.plain (OpenSpec.ofChange tagSameSpec)) tagSameCard

/-- THE TIED CARD OF 'greffierlaw12.TagRequests'. -/
def tagRequestsCard : Claim7 := { stood := { row := tagRequestsRow, standIns := [], harness := (true, "8b9b5d9c65d1c2cdcdc096a229f7bd2e3f50a40fd6b4656bb6264d5186115611"), looks := true }, kinds := [], alts := [], laidByText := true, laidKinds := [.data, .data, .data, .data, .pinned], laidTests := true, laidLooks := .later }
def TagRequestsCardSaid : Prop := Claim7.holds Tryz.pinned (.plain (OpenSpec.ofChange tagRequestsSpec)) tagRequestsCard

/-- THE TIED CARD OF 'greffierlaw12.TagWrites'. -/
def tagWritesCard : Claim7 := { stood := { row := tagWritesRow, standIns := [], harness := (true, "8b9b5d9c65d1c2cdcdc096a229f7bd2e3f50a40fd6b4656bb6264d5186115611"), looks := true }, kinds := [], alts := [], laidByText := true, laidKinds := [.data, .data, .data, .data, .pinned], laidTests := true, laidLooks := .later }
def TagWritesCardSaid : Prop := Claim7.holds Tryz.pinned (.plain (OpenSpec.ofChange tagWritesSpec)) tagWritesCard

/-- THE TIED CARD OF 'greffierlaw12.TagReads'. -/
def tagReadsCard : Claim7 := { stood := { row := tagReadsRow, standIns := [], harness := (true, "8b9b5d9c65d1c2cdcdc096a229f7bd2e3f50a40fd6b4656bb6264d5186115611"), looks := true }, kinds := [], alts := [], laidByText := true, laidKinds := [.data, .data, .data, .data, .pinned], laidTests := true, laidLooks := .later }
def TagReadsCardSaid : Prop := Claim7.holds Tryz.pinned (.plain (OpenSpec.ofChange tagReadsSpec)) tagReadsCard

/-- THE SECOND FORM's CARD OF 'greffierlaw12.TagLists'. -/
def tagListsUptoCard : Claim7 := { stood := { row := tagListsUptoRow, standIns := [], harness := (true, "8b9b5d9c65d1c2cdcdc096a229f7bd2e3f50a40fd6b4656bb6264d5186115611"), looks := true }, kinds := [], alts := [], laidByText := true, laidKinds := [.data, .data, .data, .data, .pinned], laidTests := true, laidLooks := .later }
def TagListsUptoCardSaid : Prop := Claim7.holds Tryz.pinned (.plain (OpenSpec.upto tagListsSpec)) tagListsUptoCard

/-- THE SECOND FORM's CARD OF 'greffierlaw12.TagSame'. -/
def tagSameUptoCard : Claim7 := { stood := { row := tagSameUptoRow, standIns := [], harness := (true, "8b9b5d9c65d1c2cdcdc096a229f7bd2e3f50a40fd6b4656bb6264d5186115611"), looks := true }, kinds := [], alts := [], laidByText := true, laidKinds := [.data, .data, .data, .data, .pinned], laidTests := true, laidLooks := .later }
def TagSameUptoCardSaid : Prop := Claim7.holds Tryz.pinned (.plain (OpenSpec.upto tagSameSpec)) tagSameUptoCard

/-- THE SECOND FORM's CARD OF 'greffierlaw12.TagRequests'. -/
def tagRequestsUptoCard : Claim7 := { stood := { row := tagRequestsUptoRow, standIns := [], harness := (true, "8b9b5d9c65d1c2cdcdc096a229f7bd2e3f50a40fd6b4656bb6264d5186115611"), looks := true }, kinds := [], alts := [], laidByText := true, laidKinds := [.data, .data, .data, .data, .pinned], laidTests := true, laidLooks := .later }
def TagRequestsUptoCardSaid : Prop := Claim7.holds Tryz.pinned (.plain (OpenSpec.upto tagRequestsSpec)) tagRequestsUptoCard

/-- THE SECOND FORM's CARD OF 'greffierlaw12.TagWrites'. -/
def tagWritesUptoCard : Claim7 := { stood := { row := tagWritesUptoRow, standIns := [], harness := (true, "8b9b5d9c65d1c2cdcdc096a229f7bd2e3f50a40fd6b4656bb6264d5186115611"), looks := true }, kinds := [], alts := [], laidByText := true, laidKinds := [.data, .data, .data, .data, .pinned], laidTests := true, laidLooks := .later }
def TagWritesUptoCardSaid : Prop := Claim7.holds Tryz.pinned (.plain (OpenSpec.upto tagWritesSpec)) tagWritesUptoCard

/-- THE SECOND FORM's CARD OF 'greffierlaw12.TagReads'. -/
def tagReadsUptoCard : Claim7 := { stood := { row := tagReadsUptoRow, standIns := [], harness := (true, "8b9b5d9c65d1c2cdcdc096a229f7bd2e3f50a40fd6b4656bb6264d5186115611"), looks := true }, kinds := [], alts := [], laidByText := true, laidKinds := [.data, .data, .data, .data, .pinned], laidTests := true, laidLooks := .later }
def TagReadsUptoCardSaid : Prop := Claim7.holds Tryz.pinned (.plain (OpenSpec.upto tagReadsSpec)) tagReadsUptoCard
end Rows
end Go.Proofs.YtbeghpkkpnbkgaaGreatDoor
