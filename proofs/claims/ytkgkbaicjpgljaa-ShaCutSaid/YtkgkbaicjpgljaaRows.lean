/-
  No cell of these rows narrows 'for every input' (looked for: loops, veiled, ifaces, maps, wideKeys, modest, calm, conditions, laid).
  DERIVED. THE GIVEN ROWS OF THIS SEAT. 8 by the template 'for every input the law returns true; each argument reads behind the call as it read before'; 0 by the template 'total and deterministic' (their statements: YtkgkbaicjpgljaaTotals.lean).
  GIVEN WITH THE SEED: the statements are not yours to turn. If you find one false, say at which input.
  Laid BY PROGRAM, IN A SANDBOX (cutbox-rows.mjs): the forced cells as the released guide's own fill.sh prints them over the translation 6fd9d6ef267fef58… (all of the seat's roots in one cut). By AI agents, Wed Nov 11 2026. No macro, syntax, notation, axiom, sorry.
-/
import Derived.Test.YtkgkbaicjpgljaaChecked
import GoSem.Claim
import GoSem.ClaimJoined
import GoSem.ClaimMapViews
import Derived.JoinedTies
import Derived.KernelRfl
namespace Go.Proofs.Ytkgkbaicjpgljaa
/- THE CELL 'sum', in the pinned program and in every row, IS THE sha256 OF THE DUMP (.gsa) THAT YtkgkbaicjpgljaaProg.lean LOADS. Nothing in Lean hashes anything: it is a label: what it is worth is what the hold of that sum in a sandbox is worth. -/
noncomputable def Try.pinned : Pinned := { name := "ytkgkbaicjpgljaa", sum := "6fd9d6ef267fef586c8376a8f7ed70bd7c29673ad0fae24ee7b51ab029bd60d5", checked := Try.checked }
namespace Rows
def none {H : Type} : Left H := { results := [], args := [] }

/-- 'greffierlaw25.ProofJoins': WHATEVER THE INPUT: true; the input reads as it did. -/
def proofJoinsSpec : ChangeSpec := { name := "proofJoins", fn := fun _ => fun
  | [d1, d2] => { results := [.lit (.bool true)], args := [d1, d2] }
  | _ => none }
def proofJoinsRow : OpenClaim := { program := "ytkgkbaicjpgljaa", sum := "6fd9d6ef267fef586c8376a8f7ed70bd7c29673ad0fae24ee7b51ab029bd60d5", func := "greffier/greffierlaw25.ProofJoins", spec := "proofJoins", apart := false }
def ProofJoinsSaid : Prop := proofJoinsRow.holds Try.pinned (OpenSpec.ofChange proofJoinsSpec)

/-- ITS FALSE NEIGHBOUR: 'it returns false'. Refute it at one input. -/
def proofJoinsWrong : ChangeSpec := { name := "proofJoins", fn := fun _ => fun
  | [d1, d2] => { results := [.lit (.bool false)], args := [d1, d2] }
  | _ => none }
def ProofJoinsWrongFalsely : Prop := proofJoinsRow.holds Try.pinned (OpenSpec.ofChange proofJoinsWrong)

/-- 'greffierlaw25.ProofWrites': WHATEVER THE INPUT: true; the input reads as it did. -/
def proofWritesSpec : ChangeSpec := { name := "proofWrites", fn := fun _ => fun
  | [d] => { results := [.lit (.bool true)], args := [d] }
  | _ => none }
def proofWritesRow : OpenClaim := { program := "ytkgkbaicjpgljaa", sum := "6fd9d6ef267fef586c8376a8f7ed70bd7c29673ad0fae24ee7b51ab029bd60d5", func := "greffier/greffierlaw25.ProofWrites", spec := "proofWrites", apart := false }
def ProofWritesSaid : Prop := proofWritesRow.holds Try.pinned (OpenSpec.ofChange proofWritesSpec)

/-- ITS FALSE NEIGHBOUR: 'it returns false'. Refute it at one input. -/
def proofWritesWrong : ChangeSpec := { name := "proofWrites", fn := fun _ => fun
  | [d] => { results := [.lit (.bool false)], args := [d] }
  | _ => none }
def ProofWritesWrongFalsely : Prop := proofWritesRow.holds Try.pinned (OpenSpec.ofChange proofWritesWrong)

/-- 'greffierlaw25.ProofReads': WHATEVER THE INPUT: true; the input reads as it did. -/
def proofReadsSpec : ChangeSpec := { name := "proofReads", fn := fun _ => fun
  | [d] => { results := [.lit (.bool true)], args := [d] }
  | _ => none }
def proofReadsRow : OpenClaim := { program := "ytkgkbaicjpgljaa", sum := "6fd9d6ef267fef586c8376a8f7ed70bd7c29673ad0fae24ee7b51ab029bd60d5", func := "greffier/greffierlaw25.ProofReads", spec := "proofReads", apart := false }
def ProofReadsSaid : Prop := proofReadsRow.holds Try.pinned (OpenSpec.ofChange proofReadsSpec)

/-- ITS FALSE NEIGHBOUR: 'it returns false'. Refute it at one input. -/
def proofReadsWrong : ChangeSpec := { name := "proofReads", fn := fun _ => fun
  | [d] => { results := [.lit (.bool false)], args := [d] }
  | _ => none }
def ProofReadsWrongFalsely : Prop := proofReadsRow.holds Try.pinned (OpenSpec.ofChange proofReadsWrong)

/-- 'greffierlaw25.ProofLong': WHATEVER THE INPUT: true; the input reads as it did. -/
def proofLongSpec : ChangeSpec := { name := "proofLong", fn := fun _ => fun
  | [d1, d2] => { results := [.lit (.bool true)], args := [d1, d2] }
  | _ => none }
def proofLongRow : OpenClaim := { program := "ytkgkbaicjpgljaa", sum := "6fd9d6ef267fef586c8376a8f7ed70bd7c29673ad0fae24ee7b51ab029bd60d5", func := "greffier/greffierlaw25.ProofLong", spec := "proofLong", apart := false }
def ProofLongSaid : Prop := proofLongRow.holds Try.pinned (OpenSpec.ofChange proofLongSpec)

/-- ITS FALSE NEIGHBOUR: 'it returns false'. Refute it at one input. -/
def proofLongWrong : ChangeSpec := { name := "proofLong", fn := fun _ => fun
  | [d1, d2] => { results := [.lit (.bool false)], args := [d1, d2] }
  | _ => none }
def ProofLongWrongFalsely : Prop := proofLongRow.holds Try.pinned (OpenSpec.ofChange proofLongWrong)

/-- 'greffierlaw04.ShaSums': WHATEVER THE INPUT: true; the input reads as it did. -/
def shaSumsSpec : ChangeSpec := { name := "shaSums", fn := fun _ => fun
  | [d] => { results := [.lit (.bool true)], args := [d] }
  | _ => none }
def shaSumsRow : OpenClaim := { program := "ytkgkbaicjpgljaa", sum := "6fd9d6ef267fef586c8376a8f7ed70bd7c29673ad0fae24ee7b51ab029bd60d5", func := "greffier/greffierlaw04.ShaSums", spec := "shaSums", inPlace := ["math/bits.Add64"], apart := false }
def ShaSumsSaid : Prop := shaSumsRow.holds Try.pinned (OpenSpec.ofChange shaSumsSpec)

/-- ITS FALSE NEIGHBOUR: 'it returns false'. Refute it at one input. -/
def shaSumsWrong : ChangeSpec := { name := "shaSums", fn := fun _ => fun
  | [d] => { results := [.lit (.bool false)], args := [d] }
  | _ => none }
def ShaSumsWrongFalsely : Prop := shaSumsRow.holds Try.pinned (OpenSpec.ofChange shaSumsWrong)

/-- 'greffierlaw04.ShaPieces': WHATEVER THE INPUT: true; the input reads as it did. -/
def shaPiecesSpec : ChangeSpec := { name := "shaPieces", fn := fun _ => fun
  | [d] => { results := [.lit (.bool true)], args := [d] }
  | _ => none }
def shaPiecesRow : OpenClaim := { program := "ytkgkbaicjpgljaa", sum := "6fd9d6ef267fef586c8376a8f7ed70bd7c29673ad0fae24ee7b51ab029bd60d5", func := "greffier/greffierlaw04.ShaPieces", spec := "shaPieces", inPlace := ["math/bits.Add64"], apart := false }
def ShaPiecesSaid : Prop := shaPiecesRow.holds Try.pinned (OpenSpec.ofChange shaPiecesSpec)

/-- ITS FALSE NEIGHBOUR: 'it returns false'. Refute it at one input. -/
def shaPiecesWrong : ChangeSpec := { name := "shaPieces", fn := fun _ => fun
  | [d] => { results := [.lit (.bool false)], args := [d] }
  | _ => none }
def ShaPiecesWrongFalsely : Prop := shaPiecesRow.holds Try.pinned (OpenSpec.ofChange shaPiecesWrong)

/-- 'greffierlaw04.ShaNil': WHATEVER THE INPUT: true; the input reads as it did. -/
def shaNilSpec : ChangeSpec := { name := "shaNil", fn := fun _ => fun
  | [d] => { results := [.lit (.bool true)], args := [d] }
  | _ => none }
def shaNilRow : OpenClaim := { program := "ytkgkbaicjpgljaa", sum := "6fd9d6ef267fef586c8376a8f7ed70bd7c29673ad0fae24ee7b51ab029bd60d5", func := "greffier/greffierlaw04.ShaNil", spec := "shaNil", inPlace := ["math/bits.Add64"], apart := false }
def ShaNilSaid : Prop := shaNilRow.holds Try.pinned (OpenSpec.ofChange shaNilSpec)

/-- ITS FALSE NEIGHBOUR: 'it returns false'. Refute it at one input. -/
def shaNilWrong : ChangeSpec := { name := "shaNil", fn := fun _ => fun
  | [d] => { results := [.lit (.bool false)], args := [d] }
  | _ => none }
def ShaNilWrongFalsely : Prop := shaNilRow.holds Try.pinned (OpenSpec.ofChange shaNilWrong)

/-- 'greffierlaw04.ShaCut': WHATEVER THE INPUT: true; the input reads as it did. -/
def shaCutSpec : ChangeSpec := { name := "shaCut", fn := fun _ => fun
  | [d1, d2] => { results := [.lit (.bool true)], args := [d1, d2] }
  | _ => none }
def shaCutRow : OpenClaim := { program := "ytkgkbaicjpgljaa", sum := "6fd9d6ef267fef586c8376a8f7ed70bd7c29673ad0fae24ee7b51ab029bd60d5", func := "greffier/greffierlaw04.ShaCut", spec := "shaCut", inPlace := ["math/bits.Add64"], apart := false }
def ShaCutSaid : Prop := shaCutRow.holds Try.pinned (OpenSpec.ofChange shaCutSpec)

/-- ITS FALSE NEIGHBOUR: 'it returns false'. Refute it at one input. -/
def shaCutWrong : ChangeSpec := { name := "shaCut", fn := fun _ => fun
  | [d1, d2] => { results := [.lit (.bool false)], args := [d1, d2] }
  | _ => none }
def ShaCutWrongFalsely : Prop := shaCutRow.holds Try.pinned (OpenSpec.ofChange shaCutWrong)

/- THE SECOND FORM. 'bulk': how many values and letters a reading holds, each counted each time it is reached (what is shared counts as often as it is met; a slice's spare places count too). A statement '..UptoSaid' is the law's where the arguments, and the package variables that the reading takes, are together of bulk at most 1048576: NARROWER than '..Said'. Prove '..Said' where nothing that the law and all that it calls make is longer than what came in: it says more and counts as full. Else prove '..UptoSaid'. A law counts once. -/
mutual
def uptoBulk {H : Type} : DataW H → Nat
  | .lit (.string bytes) => bytes.length + 1
  | .lit _ => 1
  | .nil => 1
  | .ptr d => uptoBulk d + 1
  | .slice elems spare => uptoBulkAll elems + uptoBulkAll spare + 1
  | .agg parts => uptoBulkAll parts + 1
  | .iface _ d => uptoBulk d + 1
  | .map entries => uptoBulkEntries entries + 1
  | .held _ => 1
def uptoBulkAll {H : Type} : List (DataW H) → Nat
  | [] => 0
  | d :: r => uptoBulk d + uptoBulkAll r
def uptoBulkEntries {H : Type} : List (Lit × DataW H) → Nat
  | [] => 0
  | x :: r => uptoBulkEntry x + uptoBulkEntries r
def uptoBulkEntry {H : Type} : Lit × DataW H → Nat
  | (.string bytes, d) => bytes.length + uptoBulk d + 1
  | (_, d) => uptoBulk d + 1
 end
def uptoSmall : (H : Type) → List (DataW H) → Bool := fun _ ds => decide (uptoBulkAll ds ≤ 1048576)
def OpenSpec.upto (s : _root_.Go.ChangeSpec) : _root_.Go.OpenSpec := { _root_.Go.OpenSpec.ofChange s with cond := some uptoSmall }

/-- 'greffierlaw25.ProofJoins', WHERE WHAT IT READS IS OF BULK AT MOST 1048576: true; the input reads as it did. -/
def proofJoinsUptoRow : OpenClaim := { program := "ytkgkbaicjpgljaa", sum := "6fd9d6ef267fef586c8376a8f7ed70bd7c29673ad0fae24ee7b51ab029bd60d5", func := "greffier/greffierlaw25.ProofJoins", spec := "proofJoins", apart := false, narrowed := true }
def ProofJoinsUptoSaid : Prop := proofJoinsUptoRow.holds Try.pinned (OpenSpec.upto proofJoinsSpec)

/-- 'greffierlaw25.ProofWrites', WHERE WHAT IT READS IS OF BULK AT MOST 1048576: true; the input reads as it did. -/
def proofWritesUptoRow : OpenClaim := { program := "ytkgkbaicjpgljaa", sum := "6fd9d6ef267fef586c8376a8f7ed70bd7c29673ad0fae24ee7b51ab029bd60d5", func := "greffier/greffierlaw25.ProofWrites", spec := "proofWrites", apart := false, narrowed := true }
def ProofWritesUptoSaid : Prop := proofWritesUptoRow.holds Try.pinned (OpenSpec.upto proofWritesSpec)

/-- 'greffierlaw25.ProofReads', WHERE WHAT IT READS IS OF BULK AT MOST 1048576: true; the input reads as it did. -/
def proofReadsUptoRow : OpenClaim := { program := "ytkgkbaicjpgljaa", sum := "6fd9d6ef267fef586c8376a8f7ed70bd7c29673ad0fae24ee7b51ab029bd60d5", func := "greffier/greffierlaw25.ProofReads", spec := "proofReads", apart := false, narrowed := true }
def ProofReadsUptoSaid : Prop := proofReadsUptoRow.holds Try.pinned (OpenSpec.upto proofReadsSpec)

/-- 'greffierlaw25.ProofLong', WHERE WHAT IT READS IS OF BULK AT MOST 1048576: true; the input reads as it did. -/
def proofLongUptoRow : OpenClaim := { program := "ytkgkbaicjpgljaa", sum := "6fd9d6ef267fef586c8376a8f7ed70bd7c29673ad0fae24ee7b51ab029bd60d5", func := "greffier/greffierlaw25.ProofLong", spec := "proofLong", apart := false, narrowed := true }
def ProofLongUptoSaid : Prop := proofLongUptoRow.holds Try.pinned (OpenSpec.upto proofLongSpec)

/-- 'greffierlaw04.ShaSums', WHERE WHAT IT READS IS OF BULK AT MOST 1048576: true; the input reads as it did. -/
def shaSumsUptoRow : OpenClaim := { program := "ytkgkbaicjpgljaa", sum := "6fd9d6ef267fef586c8376a8f7ed70bd7c29673ad0fae24ee7b51ab029bd60d5", func := "greffier/greffierlaw04.ShaSums", spec := "shaSums", inPlace := ["math/bits.Add64"], apart := false, narrowed := true }
def ShaSumsUptoSaid : Prop := shaSumsUptoRow.holds Try.pinned (OpenSpec.upto shaSumsSpec)

/-- 'greffierlaw04.ShaPieces', WHERE WHAT IT READS IS OF BULK AT MOST 1048576: true; the input reads as it did. -/
def shaPiecesUptoRow : OpenClaim := { program := "ytkgkbaicjpgljaa", sum := "6fd9d6ef267fef586c8376a8f7ed70bd7c29673ad0fae24ee7b51ab029bd60d5", func := "greffier/greffierlaw04.ShaPieces", spec := "shaPieces", inPlace := ["math/bits.Add64"], apart := false, narrowed := true }
def ShaPiecesUptoSaid : Prop := shaPiecesUptoRow.holds Try.pinned (OpenSpec.upto shaPiecesSpec)

/-- 'greffierlaw04.ShaNil', WHERE WHAT IT READS IS OF BULK AT MOST 1048576: true; the input reads as it did. -/
def shaNilUptoRow : OpenClaim := { program := "ytkgkbaicjpgljaa", sum := "6fd9d6ef267fef586c8376a8f7ed70bd7c29673ad0fae24ee7b51ab029bd60d5", func := "greffier/greffierlaw04.ShaNil", spec := "shaNil", inPlace := ["math/bits.Add64"], apart := false, narrowed := true }
def ShaNilUptoSaid : Prop := shaNilUptoRow.holds Try.pinned (OpenSpec.upto shaNilSpec)

/-- 'greffierlaw04.ShaCut', WHERE WHAT IT READS IS OF BULK AT MOST 1048576: true; the input reads as it did. -/
def shaCutUptoRow : OpenClaim := { program := "ytkgkbaicjpgljaa", sum := "6fd9d6ef267fef586c8376a8f7ed70bd7c29673ad0fae24ee7b51ab029bd60d5", func := "greffier/greffierlaw04.ShaCut", spec := "shaCut", inPlace := ["math/bits.Add64"], apart := false, narrowed := true }
def ShaCutUptoSaid : Prop := shaCutUptoRow.holds Try.pinned (OpenSpec.upto shaCutSpec)

end Rows
end Go.Proofs.Ytkgkbaicjpgljaa
