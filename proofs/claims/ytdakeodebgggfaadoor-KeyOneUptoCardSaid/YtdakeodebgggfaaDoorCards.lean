/-
  DERIVED. GIVEN WITH THE SEED: THE CARDS: each row of YtdakeodebgggfaaDoorRows.lean that lists a variable, with what it lists TIED to the program's text (the seventh form; the later family's looks); each row that meets fmt, with fmt's text TOLD by the authors' own Lean function (tested against real Go, not proved from fmt's source: count such statements apart). THE CARD IS WHAT COUNTS. Prove the row's statement (the work); the ties are given (YtdakeodebgggfaaDoorTie.lean); close each card by the builder's one call (the guide's Derived/Test/ToyasCard.lean, 'card_holds'). Laid BY PROGRAM, IN A SANDBOX (cutbox-door.mjs). By AI agents, Wed Nov 11 2026. No macro, syntax, notation, axiom, sorry.
-/
import Derived.Test.YtdakeodebgggfaaDoorRows
import GoSem.ClaimSeven
namespace Go.Proofs.YtdakeodebgggfaaDoor
namespace Rows

/-- THE TIED CARD OF 'greffierlaw18.SignedReads'. -/
def signedReadsCard : Claim7 := { stood := { row := signedReadsRow, standIns := [], harness := (true, "4c3ea60bf7aa8e3d44e4bd02da036a045b7d9392a43aa92a2b5ace817350fb04"), looks := false }, kinds := [], alts := [], laidByText := true, laidKinds := [.data, .data, .data], laidTests := true, laidLooks := .later }
def SignedReadsCardSaid : Prop := Claim7.holds Tryd.pinned (.plain (OpenSpec.ofChange signedReadsSpec)) signedReadsCard

/-- THE TIED CARD OF 'greffierlaw14.KeyWrites'. -/
def keyWritesCard : Claim7 := { stood := { row := keyWritesRow, standIns := [], harness := (true, "4c3ea60bf7aa8e3d44e4bd02da036a045b7d9392a43aa92a2b5ace817350fb04"), looks := false }, kinds := [], alts := [], laidByText := true, laidKinds := [.data, .data, .data], laidTests := true, laidLooks := .later }
def KeyWritesCardSaid : Prop := Claim7.holds Tryd.pinned (.plain (OpenSpec.ofChange keyWritesSpec)) keyWritesCard

/-- THE TIED CARD OF 'greffierlaw14.KeyReads'. -/
def keyReadsCard : Claim7 := { stood := { row := keyReadsRow, standIns := [], harness := (true, "4c3ea60bf7aa8e3d44e4bd02da036a045b7d9392a43aa92a2b5ace817350fb04"), looks := false }, kinds := [], alts := [], laidByText := true, laidKinds := [.data, .data, .data], laidTests := true, laidLooks := .later }
def KeyReadsCardSaid : Prop := Claim7.holds Tryd.pinned (.plain (OpenSpec.ofChange keyReadsSpec)) keyReadsCard

/-- THE TIED CARD OF 'greffierlaw18.SignedSums'. -/
def signedSumsCard : Claim7 := { stood := { row := signedSumsRow, standIns := [], harness := (true, "4c3ea60bf7aa8e3d44e4bd02da036a045b7d9392a43aa92a2b5ace817350fb04"), looks := false }, kinds := [], alts := [], laidByText := true, laidKinds := [.data, .data, .data], laidTests := true, laidLooks := .later }
def SignedSumsCardSaid : Prop := Claim7.holds Tryd.pinned (.plain (OpenSpec.ofChange signedSumsSpec)) signedSumsCard

/-- THE TIED CARD OF 'greffierlaw14.KeyOne'. -/
def keyOneCard : Claim7 := { stood := { row := keyOneRow, standIns := [], harness := (true, "4c3ea60bf7aa8e3d44e4bd02da036a045b7d9392a43aa92a2b5ace817350fb04"), looks := false }, kinds := [], alts := [], laidByText := true, laidKinds := [.data, .data, .data], laidTests := true, laidLooks := .later }
def KeyOneCardSaid : Prop := Claim7.holds Tryd.pinned (.plain (OpenSpec.ofChange keyOneSpec)) keyOneCard

/-- THE TIED CARD OF 'greffierlaw14.KeyIs'. -/
def keyIsCard : Claim7 := { stood := { row := keyIsRow, standIns := [], harness := (true, "4c3ea60bf7aa8e3d44e4bd02da036a045b7d9392a43aa92a2b5ace817350fb04"), looks := false }, kinds := [], alts := [], laidByText := true, laidKinds := [.data, .data, .data], laidTests := true, laidLooks := .later }
def KeyIsCardSaid : Prop := Claim7.holds Tryd.pinned (.plain (OpenSpec.ofChange keyIsSpec)) keyIsCard

/-- THE SECOND FORM's CARD OF 'greffierlaw18.SignedReads'. -/
def signedReadsUptoCard : Claim7 := { stood := { row := signedReadsUptoRow, standIns := [], harness := (true, "4c3ea60bf7aa8e3d44e4bd02da036a045b7d9392a43aa92a2b5ace817350fb04"), looks := false }, kinds := [], alts := [], laidByText := true, laidKinds := [.data, .data, .data], laidTests := true, laidLooks := .later }
def SignedReadsUptoCardSaid : Prop := Claim7.holds Tryd.pinned (.plain (OpenSpec.upto signedReadsSpec)) signedReadsUptoCard

/-- THE SECOND FORM's CARD OF 'greffierlaw14.KeyWrites'. -/
def keyWritesUptoCard : Claim7 := { stood := { row := keyWritesUptoRow, standIns := [], harness := (true, "4c3ea60bf7aa8e3d44e4bd02da036a045b7d9392a43aa92a2b5ace817350fb04"), looks := false }, kinds := [], alts := [], laidByText := true, laidKinds := [.data, .data, .data], laidTests := true, laidLooks := .later }
def KeyWritesUptoCardSaid : Prop := Claim7.holds Tryd.pinned (.plain (OpenSpec.upto keyWritesSpec)) keyWritesUptoCard

/-- THE SECOND FORM's CARD OF 'greffierlaw14.KeyReads'. -/
def keyReadsUptoCard : Claim7 := { stood := { row := keyReadsUptoRow, standIns := [], harness := (true, "4c3ea60bf7aa8e3d44e4bd02da036a045b7d9392a43aa92a2b5ace817350fb04"), looks := false }, kinds := [], alts := [], laidByText := true, laidKinds := [.data, .data, .data], laidTests := true, laidLooks := .later }
def KeyReadsUptoCardSaid : Prop := Claim7.holds Tryd.pinned (.plain (OpenSpec.upto keyReadsSpec)) keyReadsUptoCard

/-- THE SECOND FORM's CARD OF 'greffierlaw18.SignedSums'. -/
def signedSumsUptoCard : Claim7 := { stood := { row := signedSumsUptoRow, standIns := [], harness := (true, "4c3ea60bf7aa8e3d44e4bd02da036a045b7d9392a43aa92a2b5ace817350fb04"), looks := false }, kinds := [], alts := [], laidByText := true, laidKinds := [.data, .data, .data], laidTests := true, laidLooks := .later }
def SignedSumsUptoCardSaid : Prop := Claim7.holds Tryd.pinned (.plain (OpenSpec.upto signedSumsSpec)) signedSumsUptoCard

/-- THE SECOND FORM's CARD OF 'greffierlaw14.KeyOne'. -/
def keyOneUptoCard : Claim7 := { stood := { row := keyOneUptoRow, standIns := [], harness := (true, "4c3ea60bf7aa8e3d44e4bd02da036a045b7d9392a43aa92a2b5ace817350fb04"), looks := false }, kinds := [], alts := [], laidByText := true, laidKinds := [.data, .data, .data], laidTests := true, laidLooks := .later }
def KeyOneUptoCardSaid : Prop := Claim7.holds Tryd.pinned (.plain (OpenSpec.upto keyOneSpec)) keyOneUptoCard

/-- THE SECOND FORM's CARD OF 'greffierlaw14.KeyIs'. -/
def keyIsUptoCard : Claim7 := { stood := { row := keyIsUptoRow, standIns := [], harness := (true, "4c3ea60bf7aa8e3d44e4bd02da036a045b7d9392a43aa92a2b5ace817350fb04"), looks := false }, kinds := [], alts := [], laidByText := true, laidKinds := [.data, .data, .data], laidTests := true, laidLooks := .later }
def KeyIsUptoCardSaid : Prop := Claim7.holds Tryd.pinned (.plain (OpenSpec.upto keyIsSpec)) keyIsUptoCard
end Rows
end Go.Proofs.YtdakeodebgggfaaDoor
