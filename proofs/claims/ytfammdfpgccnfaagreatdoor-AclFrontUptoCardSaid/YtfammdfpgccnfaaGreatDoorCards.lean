/-
  DERIVED. GIVEN WITH THE SEED: THE CARDS: each row of YtfammdfpgccnfaaGreatDoorRows.lean that lists a variable, with what it lists TIED to the program's text (the seventh form; the later family's looks); each row that meets fmt, with fmt's text TOLD by the authors' own Lean function (tested against real Go, not proved from fmt's source: count such statements apart). THE CARD IS WHAT COUNTS. Prove the row's statement (the work); the ties are given (YtfammdfpgccnfaaGreatDoorTie.lean); close each card by the builder's one call (the guide's Derived/Test/ToyasCard.lean, 'card_holds'). Laid BY PROGRAM, IN A SANDBOX (cutbox-door.mjs). By AI agents, Wed Nov 11 2026. No macro, syntax, notation, axiom, sorry.
-/
import Derived.Test.YtfammdfpgccnfaaGreatDoorRows
import GoSem.ClaimSeven
namespace Go.Proofs.YtfammdfpgccnfaaGreatDoor
namespace Rows

/-- THE TIED CARD OF 'greffierlaw17.CertSame'. -/
def certSameCard : Claim7 := { stood := { row := certSameRow, standIns := [], harness := (true, "a1a4ac09ca21753deaf817d9e90854d41cf178d043f58cdb4ef72092fc65d5ba"), looks := true }, kinds := [], alts := [], laidByText := true, laidKinds := [.data, .data, .data, .data, .pinned], laidTests := true, laidLooks := .later }
def CertSameCardSaid : Prop := Claim7.holds Tryz.pinned (.plain (OpenSpec.ofChange certSameSpec)) certSameCard

/-- THE TIED CARD OF 'greffierlaw17.CertOne'. -/
def certOneCard : Claim7 := { stood := { row := certOneRow, standIns := [], harness := (true, "a1a4ac09ca21753deaf817d9e90854d41cf178d043f58cdb4ef72092fc65d5ba"), looks := true }, kinds := [], alts := [], laidByText := true, laidKinds := [.data, .data, .data, .data, .pinned], laidTests := true, laidLooks := .later }
def CertOneCardSaid : Prop := Claim7.holds Tryz.pinned (.plain (OpenSpec.ofChange certOneSpec)) certOneCard

/-- THE TIED CARD OF 'greffierlaw20.AclWrites'. -/
def aclWritesCard : Claim7 := { stood := { row := aclWritesRow, standIns := [], harness := (true, "a1a4ac09ca21753deaf817d9e90854d41cf178d043f58cdb4ef72092fc65d5ba"), looks := true }, kinds := [], alts := [], laidByText := true, laidKinds := [.data, .data, .data, .data, .pinned], laidTests := true, laidLooks := .later }
def AclWritesCardSaid : Prop := Claim7.holds Tryz.pinned (.plain (OpenSpec.ofChange aclWritesSpec)) aclWritesCard

/-- THE TIED CARD OF 'greffierlaw20.AclReads'. -/
def aclReadsCard : Claim7 := { stood := { row := aclReadsRow, standIns := [], harness := (true, "a1a4ac09ca21753deaf817d9e90854d41cf178d043f58cdb4ef72092fc65d5ba"), looks := true }, kinds := [], alts := [], laidByText := true, laidKinds := [.data, .data, .data, .data, .pinned], laidTests := true, laidLooks := .later }
def AclReadsCardSaid : Prop := Claim7.holds Tryz.pinned (.plain (OpenSpec.ofChange aclReadsSpec)) aclReadsCard

/-- THE TIED CARD OF 'greffierlaw20.AclFront'. -/
def aclFrontCard : Claim7 := { stood := { row := aclFrontRow, standIns := [], harness := (true, "a1a4ac09ca21753deaf817d9e90854d41cf178d043f58cdb4ef72092fc65d5ba"), looks := true }, kinds := [], alts := [], laidByText := true, laidKinds := [.data, .data, .data, .data, .pinned], laidTests := true, laidLooks := .later }
def AclFrontCardSaid : Prop := Claim7.holds Tryz.pinned (.plain (OpenSpec.ofChange aclFrontSpec)) aclFrontCard

/-- THE TIED CARD OF 'greffierlaw20.AclSame'. -/
def aclSameCard : Claim7 := { stood := { row := aclSameRow, standIns := [], harness := (true, "a1a4ac09ca21753deaf817d9e90854d41cf178d043f58cdb4ef72092fc65d5ba"), looks := true }, kinds := [], alts := [], laidByText := true, laidKinds := [.data, .data, .data, .data, .pinned], laidTests := true, laidLooks := .later }
def AclSameCardSaid : Prop := Claim7.holds Tryz.pinned (.plain (OpenSpec.ofChange aclSameSpec)) aclSameCard

/-- THE TIED CARD OF 'greffierlaw17.CertReads'. -/
def certReadsCard : Claim7 := { stood := { row := certReadsRow, standIns := [], harness := (true, "a1a4ac09ca21753deaf817d9e90854d41cf178d043f58cdb4ef72092fc65d5ba"), looks := true }, kinds := [], alts := [], laidByText := true, laidKinds := [.data, .data, .data, .data, .pinned], laidTests := true, laidLooks := .later }
def CertReadsCardSaid : Prop := Claim7.holds Tryz.pinned (.plain (OpenSpec.ofChange certReadsSpec)) certReadsCard

/-- THE TIED CARD OF 'greffierlaw17.CertWrites'. -/
def certWritesCard : Claim7 := { stood := { row := certWritesRow, standIns := [], harness := (true, "a1a4ac09ca21753deaf817d9e90854d41cf178d043f58cdb4ef72092fc65d5ba"), looks := true }, kinds := [], alts := [], laidByText := true, laidKinds := [.data, .data, .data, .data, .pinned], laidTests := true, laidLooks := .later }
def CertWritesCardSaid : Prop := Claim7.holds Tryz.pinned (.plain (OpenSpec.ofChange certWritesSpec)) certWritesCard

/-- THE SECOND FORM's CARD OF 'greffierlaw17.CertSame'. -/
def certSameUptoCard : Claim7 := { stood := { row := certSameUptoRow, standIns := [], harness := (true, "a1a4ac09ca21753deaf817d9e90854d41cf178d043f58cdb4ef72092fc65d5ba"), looks := true }, kinds := [], alts := [], laidByText := true, laidKinds := [.data, .data, .data, .data, .pinned], laidTests := true, laidLooks := .later }
def CertSameUptoCardSaid : Prop := Claim7.holds Tryz.pinned (.plain (OpenSpec.upto certSameSpec)) certSameUptoCard

/-- THE SECOND FORM's CARD OF 'greffierlaw17.CertOne'. -/
def certOneUptoCard : Claim7 := { stood := { row := certOneUptoRow, standIns := [], harness := (true, "a1a4ac09ca21753deaf817d9e90854d41cf178d043f58cdb4ef72092fc65d5ba"), looks := true }, kinds := [], alts := [], laidByText := true, laidKinds := [.data, .data, .data, .data, .pinned], laidTests := true, laidLooks := .later }
def CertOneUptoCardSaid : Prop := Claim7.holds Tryz.pinned (.plain (OpenSpec.upto certOneSpec)) certOneUptoCard

/-- THE SECOND FORM's CARD OF 'greffierlaw20.AclWrites'. -/
def aclWritesUptoCard : Claim7 := { stood := { row := aclWritesUptoRow, standIns := [], harness := (true, "a1a4ac09ca21753deaf817d9e90854d41cf178d043f58cdb4ef72092fc65d5ba"), looks := true }, kinds := [], alts := [], laidByText := true, laidKinds := [.data, .data, .data, .data, .pinned], laidTests := true, laidLooks := .later }
def AclWritesUptoCardSaid : Prop := Claim7.holds Tryz.pinned (.plain (OpenSpec.upto aclWritesSpec)) aclWritesUptoCard

/-- THE SECOND FORM's CARD OF 'greffierlaw20.AclReads'. -/
def aclReadsUptoCard : Claim7 := { stood := { row := aclReadsUptoRow, standIns := [], harness := (true, "a1a4ac09ca21753deaf817d9e90854d41cf178d043f58cdb4ef72092fc65d5ba"), looks := true }, kinds := [], alts := [], laidByText := true, laidKinds := [.data, .data, .data, .data, .pinned], laidTests := true, laidLooks := .later }
def AclReadsUptoCardSaid : Prop := Claim7.holds Tryz.pinned (.plain (OpenSpec.upto aclReadsSpec)) aclReadsUptoCard

/-- THE SECOND FORM's CARD OF 'greffierlaw20.AclFront'. -/
def aclFrontUptoCard : Claim7 := { stood := { row := aclFrontUptoRow, standIns := [], harness := (true, "a1a4ac09ca21753deaf817d9e90854d41cf178d043f58cdb4ef72092fc65d5ba"), looks := true }, kinds := [], alts := [], laidByText := true, laidKinds := [.data, .data, .data, .data, .pinned], laidTests := true, laidLooks := .later }
def AclFrontUptoCardSaid : Prop := Claim7.holds Tryz.pinned (.plain (OpenSpec.upto aclFrontSpec)) aclFrontUptoCard

/-- THE SECOND FORM's CARD OF 'greffierlaw20.AclSame'. -/
def aclSameUptoCard : Claim7 := { stood := { row := aclSameUptoRow, standIns := [], harness := (true, "a1a4ac09ca21753deaf817d9e90854d41cf178d043f58cdb4ef72092fc65d5ba"), looks := true }, kinds := [], alts := [], laidByText := true, laidKinds := [.data, .data, .data, .data, .pinned], laidTests := true, laidLooks := .later }
def AclSameUptoCardSaid : Prop := Claim7.holds Tryz.pinned (.plain (OpenSpec.upto aclSameSpec)) aclSameUptoCard

/-- THE SECOND FORM's CARD OF 'greffierlaw17.CertReads'. -/
def certReadsUptoCard : Claim7 := { stood := { row := certReadsUptoRow, standIns := [], harness := (true, "a1a4ac09ca21753deaf817d9e90854d41cf178d043f58cdb4ef72092fc65d5ba"), looks := true }, kinds := [], alts := [], laidByText := true, laidKinds := [.data, .data, .data, .data, .pinned], laidTests := true, laidLooks := .later }
def CertReadsUptoCardSaid : Prop := Claim7.holds Tryz.pinned (.plain (OpenSpec.upto certReadsSpec)) certReadsUptoCard

/-- THE SECOND FORM's CARD OF 'greffierlaw17.CertWrites'. -/
def certWritesUptoCard : Claim7 := { stood := { row := certWritesUptoRow, standIns := [], harness := (true, "a1a4ac09ca21753deaf817d9e90854d41cf178d043f58cdb4ef72092fc65d5ba"), looks := true }, kinds := [], alts := [], laidByText := true, laidKinds := [.data, .data, .data, .data, .pinned], laidTests := true, laidLooks := .later }
def CertWritesUptoCardSaid : Prop := Claim7.holds Tryz.pinned (.plain (OpenSpec.upto certWritesSpec)) certWritesUptoCard
end Rows
end Go.Proofs.YtfammdfpgccnfaaGreatDoor
