/-
  No cell of these rows narrows 'for every input' (looked for: loops, veiled, ifaces, maps, wideKeys, modest, calm, conditions, laid).
  DERIVED. THE GIVEN ROWS OF THIS SEAT. 3 by the template 'for every input the law returns true; each argument reads behind the call as it read before'; 0 by the template 'total and deterministic' (their statements: YtkpkiefebipbbaaTotals.lean).
  GIVEN WITH THE SEED: the statements are not yours to turn. If you find one false, say at which input.
  Laid BY PROGRAM, IN A SANDBOX (cutbox-rows.mjs): the forced cells as the released guide's own fill.sh prints them over the translation 5768020584aefee9… (all of the seat's roots in one cut). By AI agents, Wed Nov 11 2026. No macro, syntax, notation, axiom, sorry.
-/
import Derived.Test.YtkpkiefebipbbaaChecked
import GoSem.Claim
import GoSem.ClaimJoined
import GoSem.ClaimMapViews
import Derived.JoinedTies
import Derived.KernelRfl
namespace Go.Proofs.Ytkpkiefebipbbaa
/- THE CELL 'sum', in the pinned program and in every row, IS THE sha256 OF THE DUMP (.gsa) THAT YtkpkiefebipbbaaProg.lean LOADS. Nothing in Lean hashes anything: it is a label: what it is worth is what the hold of that sum in a sandbox is worth. -/
noncomputable def Try.pinned : Pinned := { name := "ytkpkiefebipbbaa", sum := "5768020584aefee9bcbbd7830978d7a985e30f0887ed0692e514141eb9dc030a", checked := Try.checked }
namespace Rows
def none {H : Type} : Left H := { results := [], args := [] }

/-- 'greffierlaw08.EddsaVerifies': WHATEVER THE INPUT: true; the input reads as it did. -/
def eddsaVerifiesSpec : ChangeSpec := { name := "eddsaVerifies", fn := fun _ => fun
  | [d1, d2, d3] => { results := [.lit (.bool true)], args := [d1, d2, d3] }
  | _ => none }
def eddsaVerifiesRow : OpenClaim := { program := "ytkpkiefebipbbaa", sum := "5768020584aefee9bcbbd7830978d7a985e30f0887ed0692e514141eb9dc030a", func := "greffier/greffierlaw08.EddsaVerifies", spec := "eddsaVerifies", inPlace := ["math/bits.Add64", "math/bits.Sub64"], unfollowed := true, recurses := true, apart := false }
def EddsaVerifiesSaid : Prop := eddsaVerifiesRow.holds Try.pinned (OpenSpec.ofChange eddsaVerifiesSpec)

/-- ITS FALSE NEIGHBOUR: 'it returns false'. Refute it at one input. -/
def eddsaVerifiesWrong : ChangeSpec := { name := "eddsaVerifies", fn := fun _ => fun
  | [d1, d2, d3] => { results := [.lit (.bool false)], args := [d1, d2, d3] }
  | _ => none }
def EddsaVerifiesWrongFalsely : Prop := eddsaVerifiesRow.holds Try.pinned (OpenSpec.ofChange eddsaVerifiesWrong)

/-- 'greffierlaw08.EddsaSigns': WHATEVER THE INPUT: true; the input reads as it did. -/
def eddsaSignsSpec : ChangeSpec := { name := "eddsaSigns", fn := fun _ => fun
  | [d1, d2] => { results := [.lit (.bool true)], args := [d1, d2] }
  | _ => none }
def eddsaSignsRow : OpenClaim := { program := "ytkpkiefebipbbaa", sum := "5768020584aefee9bcbbd7830978d7a985e30f0887ed0692e514141eb9dc030a", func := "greffier/greffierlaw08.EddsaSigns", spec := "eddsaSigns", inPlace := ["math/bits.Add64", "math/bits.Sub64"], unfollowed := true, recurses := true, apart := false }
def EddsaSignsSaid : Prop := eddsaSignsRow.holds Try.pinned (OpenSpec.ofChange eddsaSignsSpec)

/-- ITS FALSE NEIGHBOUR: 'it returns false'. Refute it at one input. -/
def eddsaSignsWrong : ChangeSpec := { name := "eddsaSigns", fn := fun _ => fun
  | [d1, d2] => { results := [.lit (.bool false)], args := [d1, d2] }
  | _ => none }
def EddsaSignsWrongFalsely : Prop := eddsaSignsRow.holds Try.pinned (OpenSpec.ofChange eddsaSignsWrong)

/-- 'greffierlaw08.EddsaStrict': WHATEVER THE INPUT: true; the input reads as it did. -/
def eddsaStrictSpec : ChangeSpec := { name := "eddsaStrict", fn := fun _ => fun
  | [d1, d2] => { results := [.lit (.bool true)], args := [d1, d2] }
  | _ => none }
def eddsaStrictRow : OpenClaim := { program := "ytkpkiefebipbbaa", sum := "5768020584aefee9bcbbd7830978d7a985e30f0887ed0692e514141eb9dc030a", func := "greffier/greffierlaw08.EddsaStrict", spec := "eddsaStrict", inPlace := ["math/bits.Add64", "math/bits.Sub64"], unfollowed := true, recurses := true, apart := false }
def EddsaStrictSaid : Prop := eddsaStrictRow.holds Try.pinned (OpenSpec.ofChange eddsaStrictSpec)

/-- ITS FALSE NEIGHBOUR: 'it returns false'. Refute it at one input. -/
def eddsaStrictWrong : ChangeSpec := { name := "eddsaStrict", fn := fun _ => fun
  | [d1, d2] => { results := [.lit (.bool false)], args := [d1, d2] }
  | _ => none }
def EddsaStrictWrongFalsely : Prop := eddsaStrictRow.holds Try.pinned (OpenSpec.ofChange eddsaStrictWrong)

/- THE SECOND FORM. 'bulk': how many values and letters a reading holds, each counted each time it is reached (what is shared counts as often as it is met; a slice's spare places count too). A statement '..UptoSaid' is the law's where the arguments, and the package variables that the reading takes, are together of bulk at most 1048576: NARROWER than '..Said'. Prove '..Said' where nothing that the law and all that it calls make is longer than what came in: it says more and counts as full. Else prove '..UptoSaid'. A law counts once. -/
mutual
def uptoBulk {H : Type} : DataW H → Nat
  | .lit (.string bytes) => bytes.length + 1
  | .lit _ => 1
  | .nil => 1
  | .ptr d => uptoBulk d + 1
  | .slice elems spare => uptoBulkAll elems + uptoBulkAll spare + 1
  | .agg parts => uptoBulkAll parts + 1
  | .iface _ d => uptoBulk d + 1
  | .map entries => uptoBulkEntries entries + 1
  | .held _ => 1
def uptoBulkAll {H : Type} : List (DataW H) → Nat
  | [] => 0
  | d :: r => uptoBulk d + uptoBulkAll r
def uptoBulkEntries {H : Type} : List (Lit × DataW H) → Nat
  | [] => 0
  | x :: r => uptoBulkEntry x + uptoBulkEntries r
def uptoBulkEntry {H : Type} : Lit × DataW H → Nat
  | (.string bytes, d) => bytes.length + uptoBulk d + 1
  | (_, d) => uptoBulk d + 1
 end
def uptoSmall : (H : Type) → List (DataW H) → Bool := fun _ ds => decide (uptoBulkAll ds ≤ 1048576)
def OpenSpec.upto (s : _root_.Go.ChangeSpec) : _root_.Go.OpenSpec := { _root_.Go.OpenSpec.ofChange s with cond := some uptoSmall }

/-- 'greffierlaw08.EddsaVerifies', WHERE WHAT IT READS IS OF BULK AT MOST 1048576: true; the input reads as it did. -/
def eddsaVerifiesUptoRow : OpenClaim := { program := "ytkpkiefebipbbaa", sum := "5768020584aefee9bcbbd7830978d7a985e30f0887ed0692e514141eb9dc030a", func := "greffier/greffierlaw08.EddsaVerifies", spec := "eddsaVerifies", inPlace := ["math/bits.Add64", "math/bits.Sub64"], unfollowed := true, recurses := true, apart := false, narrowed := true }
def EddsaVerifiesUptoSaid : Prop := eddsaVerifiesUptoRow.holds Try.pinned (OpenSpec.upto eddsaVerifiesSpec)

/-- 'greffierlaw08.EddsaSigns', WHERE WHAT IT READS IS OF BULK AT MOST 1048576: true; the input reads as it did. -/
def eddsaSignsUptoRow : OpenClaim := { program := "ytkpkiefebipbbaa", sum := "5768020584aefee9bcbbd7830978d7a985e30f0887ed0692e514141eb9dc030a", func := "greffier/greffierlaw08.EddsaSigns", spec := "eddsaSigns", inPlace := ["math/bits.Add64", "math/bits.Sub64"], unfollowed := true, recurses := true, apart := false, narrowed := true }
def EddsaSignsUptoSaid : Prop := eddsaSignsUptoRow.holds Try.pinned (OpenSpec.upto eddsaSignsSpec)

/-- 'greffierlaw08.EddsaStrict', WHERE WHAT IT READS IS OF BULK AT MOST 1048576: true; the input reads as it did. -/
def eddsaStrictUptoRow : OpenClaim := { program := "ytkpkiefebipbbaa", sum := "5768020584aefee9bcbbd7830978d7a985e30f0887ed0692e514141eb9dc030a", func := "greffier/greffierlaw08.EddsaStrict", spec := "eddsaStrict", inPlace := ["math/bits.Add64", "math/bits.Sub64"], unfollowed := true, recurses := true, apart := false, narrowed := true }
def EddsaStrictUptoSaid : Prop := eddsaStrictUptoRow.holds Try.pinned (OpenSpec.upto eddsaStrictSpec)

end Rows
end Go.Proofs.Ytkpkiefebipbbaa
