/-
  NARROWER THAN 'FOR EVERY INPUT', by the rows' own cells (each row's printed sentence says how): CertSame: loops, laid · CertOne: loops, laid · AclWrites: loops, laid · AclReads: loops, laid · AclFront: loops, laid · AclSame: loops, laid · CertReads: loops, laid · CertWrites: loops, laid.
  DERIVED. THE GIVEN ROWS OF THIS SEAT. 8 by the template 'for every input the law returns true; each argument reads behind the call as it read before'; 0 by the template 'total and deterministic' (their statements: YtfammdfpgccnfaaGreatDoorTotals.lean).
  GIVEN WITH THE SEED: the statements are not yours to turn. If you find one false, say at which input.
  Laid BY PROGRAM, IN A SANDBOX (cutbox-rows.mjs): the forced cells as the released guide's own fill.sh prints them over the translation 6e4b8fc28aef2663… (all of the seat's roots in one cut). By AI agents, Wed Nov 11 2026. No macro, syntax, notation, axiom, sorry.
-/
import Derived.Test.YtfammdfpgccnfaaGreatDoorChecked
import GoSem.PinnedTables
import GoSem.Claim
import GoSem.ClaimJoined
import GoSem.ClaimMapViews
import Derived.JoinedTies
import Derived.KernelRfl
namespace Go.Proofs.YtfammdfpgccnfaaGreatDoor
/- THE CELL 'sum', in the pinned program and in every row, IS THE sha256 OF THE DUMP (.gsa) THAT YtfammdfpgccnfaaGreatDoorProg.lean LOADS. Nothing in Lean hashes anything: it is a label: what it is worth is what the hold of that sum in a sandbox is worth. -/
noncomputable def Tryz.pinned : Pinned := { name := "ytfammdfpgccnfaagreatdoor", sum := "6e4b8fc28aef2663d8447e8d2850d00b7cbe8dc7a658519ca72525c2f9997619", checked := Tryz.checked }
namespace Rows
def none {H : Type} : Left H := { results := [], args := [] }

/- WHAT THE LISTED PACKAGE-LEVEL VARIABLES READ AS WHEN THE CALL BEGINS. Each datum BY PROGRAM (the guide's laid-datum.mjs) off the statement by which the dump's own 'gosem.cut.vars' lays the variable. In a bare row this is a premise. The card (YtfammdfpgccnfaaGreatDoorCards.lean) ties it to the program's text. -/
def laid_math_bits_deBruijn32tab {H : Type} : DataW H := .agg [.lit (.int .u8 0), .lit (.int .u8 1), .lit (.int .u8 28), .lit (.int .u8 2), .lit (.int .u8 29), .lit (.int .u8 14), .lit (.int .u8 24), .lit (.int .u8 3), .lit (.int .u8 30), .lit (.int .u8 22), .lit (.int .u8 20), .lit (.int .u8 15), .lit (.int .u8 25), .lit (.int .u8 17), .lit (.int .u8 4), .lit (.int .u8 8), .lit (.int .u8 31), .lit (.int .u8 27), .lit (.int .u8 13), .lit (.int .u8 23), .lit (.int .u8 21), .lit (.int .u8 19), .lit (.int .u8 16), .lit (.int .u8 7), .lit (.int .u8 26), .lit (.int .u8 12), .lit (.int .u8 18), .lit (.int .u8 6), .lit (.int .u8 11), .lit (.int .u8 5), .lit (.int .u8 10), .lit (.int .u8 9)]
def laid_math_bits_deBruijn64tab {H : Type} : DataW H := .agg [.lit (.int .u8 0), .lit (.int .u8 1), .lit (.int .u8 56), .lit (.int .u8 2), .lit (.int .u8 57), .lit (.int .u8 49), .lit (.int .u8 28), .lit (.int .u8 3), .lit (.int .u8 61), .lit (.int .u8 58), .lit (.int .u8 42), .lit (.int .u8 50), .lit (.int .u8 38), .lit (.int .u8 29), .lit (.int .u8 17), .lit (.int .u8 4), .lit (.int .u8 62), .lit (.int .u8 47), .lit (.int .u8 59), .lit (.int .u8 36), .lit (.int .u8 45), .lit (.int .u8 43), .lit (.int .u8 51), .lit (.int .u8 22), .lit (.int .u8 53), .lit (.int .u8 39), .lit (.int .u8 33), .lit (.int .u8 30), .lit (.int .u8 24), .lit (.int .u8 18), .lit (.int .u8 12), .lit (.int .u8 5), .lit (.int .u8 63), .lit (.int .u8 55), .lit (.int .u8 48), .lit (.int .u8 27), .lit (.int .u8 60), .lit (.int .u8 41), .lit (.int .u8 37), .lit (.int .u8 16), .lit (.int .u8 46), .lit (.int .u8 35), .lit (.int .u8 44), .lit (.int .u8 21), .lit (.int .u8 52), .lit (.int .u8 32), .lit (.int .u8 23), .lit (.int .u8 11), .lit (.int .u8 54), .lit (.int .u8 26), .lit (.int .u8 40), .lit (.int .u8 15), .lit (.int .u8 34), .lit (.int .u8 20), .lit (.int .u8 31), .lit (.int .u8 10), .lit (.int .u8 25), .lit (.int .u8 14), .lit (.int .u8 19), .lit (.int .u8 9), .lit (.int .u8 13), .lit (.int .u8 8), .lit (.int .u8 7), .lit (.int .u8 6)]
def laid_internal_strconv_uint64pow10 {H : Type} : DataW H := .agg [.lit (.int .u64 1), .lit (.int .u64 10), .lit (.int .u64 100), .lit (.int .u64 1000), .lit (.int .u64 10000), .lit (.int .u64 100000), .lit (.int .u64 1000000), .lit (.int .u64 10000000), .lit (.int .u64 100000000), .lit (.int .u64 1000000000), .lit (.int .u64 10000000000), .lit (.int .u64 100000000000), .lit (.int .u64 1000000000000), .lit (.int .u64 10000000000000), .lit (.int .u64 100000000000000), .lit (.int .u64 1000000000000000), .lit (.int .u64 10000000000000000), .lit (.int .u64 100000000000000000), .lit (.int .u64 1000000000000000000), .lit (.int .u64 10000000000000000000)]
def laid_unicode_utf8_acceptRanges {H : Type} : DataW H := .agg [.agg [.lit (.int .u8 128), .lit (.int .u8 191)], .agg [.lit (.int .u8 160), .lit (.int .u8 191)], .agg [.lit (.int .u8 128), .lit (.int .u8 159)], .agg [.lit (.int .u8 144), .lit (.int .u8 191)], .agg [.lit (.int .u8 128), .lit (.int .u8 143)], .agg [.lit (.int .u8 0), .lit (.int .u8 0)], .agg [.lit (.int .u8 0), .lit (.int .u8 0)], .agg [.lit (.int .u8 0), .lit (.int .u8 0)], .agg [.lit (.int .u8 0), .lit (.int .u8 0)], .agg [.lit (.int .u8 0), .lit (.int .u8 0)], .agg [.lit (.int .u8 0), .lit (.int .u8 0)], .agg [.lit (.int .u8 0), .lit (.int .u8 0)], .agg [.lit (.int .u8 0), .lit (.int .u8 0)], .agg [.lit (.int .u8 0), .lit (.int .u8 0)], .agg [.lit (.int .u8 0), .lit (.int .u8 0)], .agg [.lit (.int .u8 0), .lit (.int .u8 0)]]
/-- One of Go's own tables, pinned by name: the form's constant. -/
def laid_unicode_utf8_first : DataW Unit := Go.Pinned.utf8First

/-- 'greffierlaw17.CertSame': WHATEVER THE INPUT: true; the input reads as it did. -/
def certSameSpec : ChangeSpec := { name := "certSame", fn := fun _ => fun
  | [d1, d2] => { results := [.lit (.bool true)], args := [d1, d2] }
  | _ => none }
def certSameRow : OpenClaim := { program := "ytfammdfpgccnfaagreatdoor", sum := "6e4b8fc28aef2663d8447e8d2850d00b7cbe8dc7a658519ca72525c2f9997619", func := "greffier/greffierlaw17.CertSame", spec := "certSame", inPlace := ["internal/bytealg.Compare", "math.Float64frombits", "internal/bytealg.IndexByte", "internal/bytealg.Index", "math.Float64bits", "internal/abi.NoEscape"], unfollowed := true, recurses := true, named := ["internal/strconv.uint64pow10", "math/bits.deBruijn32tab", "math/bits.deBruijn64tab", "internal/bytealg.MaxLen", "unicode/utf8.first", "unicode/utf8.acceptRanges"], loops := true, apart := false, laid := [("math/bits.deBruijn32tab", laid_math_bits_deBruijn32tab), ("math/bits.deBruijn64tab", laid_math_bits_deBruijn64tab), ("internal/strconv.uint64pow10", laid_internal_strconv_uint64pow10), ("unicode/utf8.acceptRanges", laid_unicode_utf8_acceptRanges), ("unicode/utf8.first", laid_unicode_utf8_first)] }
def CertSameSaid : Prop := certSameRow.holds Tryz.pinned (OpenSpec.ofChange certSameSpec)

/-- ITS FALSE NEIGHBOUR: 'it returns false'. Refute it at one input. -/
def certSameWrong : ChangeSpec := { name := "certSame", fn := fun _ => fun
  | [d1, d2] => { results := [.lit (.bool false)], args := [d1, d2] }
  | _ => none }
def CertSameWrongFalsely : Prop := certSameRow.holds Tryz.pinned (OpenSpec.ofChange certSameWrong)

/-- 'greffierlaw17.CertOne': WHATEVER THE INPUT: true; the input reads as it did. -/
def certOneSpec : ChangeSpec := { name := "certOne", fn := fun _ => fun
  | [d1, d2] => { results := [.lit (.bool true)], args := [d1, d2] }
  | _ => none }
def certOneRow : OpenClaim := { program := "ytfammdfpgccnfaagreatdoor", sum := "6e4b8fc28aef2663d8447e8d2850d00b7cbe8dc7a658519ca72525c2f9997619", func := "greffier/greffierlaw17.CertOne", spec := "certOne", inPlace := ["internal/bytealg.Compare", "math.Float64frombits", "internal/bytealg.IndexByte", "internal/bytealg.Index", "math.Float64bits", "internal/abi.NoEscape"], unfollowed := true, recurses := true, named := ["internal/strconv.uint64pow10", "math/bits.deBruijn32tab", "math/bits.deBruijn64tab", "internal/bytealg.MaxLen", "unicode/utf8.first", "unicode/utf8.acceptRanges"], loops := true, apart := false, laid := [("math/bits.deBruijn32tab", laid_math_bits_deBruijn32tab), ("math/bits.deBruijn64tab", laid_math_bits_deBruijn64tab), ("internal/strconv.uint64pow10", laid_internal_strconv_uint64pow10), ("unicode/utf8.acceptRanges", laid_unicode_utf8_acceptRanges), ("unicode/utf8.first", laid_unicode_utf8_first)] }
def CertOneSaid : Prop := certOneRow.holds Tryz.pinned (OpenSpec.ofChange certOneSpec)

/-- ITS FALSE NEIGHBOUR: 'it returns false'. Refute it at one input. -/
def certOneWrong : ChangeSpec := { name := "certOne", fn := fun _ => fun
  | [d1, d2] => { results := [.lit (.bool false)], args := [d1, d2] }
  | _ => none }
def CertOneWrongFalsely : Prop := certOneRow.holds Tryz.pinned (OpenSpec.ofChange certOneWrong)

/-- 'greffierlaw20.AclWrites': WHATEVER THE INPUT: true; the input reads as it did. -/
def aclWritesSpec : ChangeSpec := { name := "aclWrites", fn := fun _ => fun
  | [d] => { results := [.lit (.bool true)], args := [d] }
  | _ => none }
def aclWritesRow : OpenClaim := { program := "ytfammdfpgccnfaagreatdoor", sum := "6e4b8fc28aef2663d8447e8d2850d00b7cbe8dc7a658519ca72525c2f9997619", func := "greffier/greffierlaw20.AclWrites", spec := "aclWrites", inPlace := ["internal/bytealg.Compare", "math.Float64frombits", "internal/bytealg.IndexByte", "internal/bytealg.Index", "math.Float64bits", "internal/abi.NoEscape"], unfollowed := true, recurses := true, named := ["internal/strconv.uint64pow10", "math/bits.deBruijn32tab", "math/bits.deBruijn64tab", "internal/bytealg.MaxLen", "unicode/utf8.first", "unicode/utf8.acceptRanges"], loops := true, apart := false, laid := [("math/bits.deBruijn32tab", laid_math_bits_deBruijn32tab), ("math/bits.deBruijn64tab", laid_math_bits_deBruijn64tab), ("internal/strconv.uint64pow10", laid_internal_strconv_uint64pow10), ("unicode/utf8.acceptRanges", laid_unicode_utf8_acceptRanges), ("unicode/utf8.first", laid_unicode_utf8_first)] }
def AclWritesSaid : Prop := aclWritesRow.holds Tryz.pinned (OpenSpec.ofChange aclWritesSpec)

/-- ITS FALSE NEIGHBOUR: 'it returns false'. Refute it at one input. -/
def aclWritesWrong : ChangeSpec := { name := "aclWrites", fn := fun _ => fun
  | [d] => { results := [.lit (.bool false)], args := [d] }
  | _ => none }
def AclWritesWrongFalsely : Prop := aclWritesRow.holds Tryz.pinned (OpenSpec.ofChange aclWritesWrong)

/-- 'greffierlaw20.AclReads': WHATEVER THE INPUT: true; the input reads as it did. -/
def aclReadsSpec : ChangeSpec := { name := "aclReads", fn := fun _ => fun
  | [d] => { results := [.lit (.bool true)], args := [d] }
  | _ => none }
def aclReadsRow : OpenClaim := { program := "ytfammdfpgccnfaagreatdoor", sum := "6e4b8fc28aef2663d8447e8d2850d00b7cbe8dc7a658519ca72525c2f9997619", func := "greffier/greffierlaw20.AclReads", spec := "aclReads", inPlace := ["internal/bytealg.Compare", "math.Float64frombits", "internal/bytealg.IndexByte", "internal/bytealg.Index", "math.Float64bits", "internal/abi.NoEscape"], unfollowed := true, recurses := true, named := ["internal/strconv.uint64pow10", "math/bits.deBruijn32tab", "math/bits.deBruijn64tab", "internal/bytealg.MaxLen", "unicode/utf8.first", "unicode/utf8.acceptRanges"], loops := true, apart := false, laid := [("math/bits.deBruijn32tab", laid_math_bits_deBruijn32tab), ("math/bits.deBruijn64tab", laid_math_bits_deBruijn64tab), ("internal/strconv.uint64pow10", laid_internal_strconv_uint64pow10), ("unicode/utf8.acceptRanges", laid_unicode_utf8_acceptRanges), ("unicode/utf8.first", laid_unicode_utf8_first)] }
def AclReadsSaid : Prop := aclReadsRow.holds Tryz.pinned (OpenSpec.ofChange aclReadsSpec)

/-- ITS FALSE NEIGHBOUR: 'it returns false'. Refute it at one input. -/
def aclReadsWrong : ChangeSpec := { name := "aclReads", fn := fun _ => fun
  | [d] => { results := [.lit (.bool false)], args := [d] }
  | _ => none }
def AclReadsWrongFalsely : Prop := aclReadsRow.holds Tryz.pinned (OpenSpec.ofChange aclReadsWrong)

/-- 'greffierlaw20.AclFront': WHATEVER THE INPUT: true; the input reads as it did. -/
def aclFrontSpec : ChangeSpec := { name := "aclFront", fn := fun _ => fun
  | [d1, d2] => { results := [.lit (.bool true)], args := [d1, d2] }
  | _ => none }
def aclFrontRow : OpenClaim := { program := "ytfammdfpgccnfaagreatdoor", sum := "6e4b8fc28aef2663d8447e8d2850d00b7cbe8dc7a658519ca72525c2f9997619", func := "greffier/greffierlaw20.AclFront", spec := "aclFront", inPlace := ["internal/bytealg.Compare", "math.Float64frombits", "internal/bytealg.IndexByte", "internal/bytealg.Index", "math.Float64bits", "internal/abi.NoEscape"], unfollowed := true, recurses := true, named := ["internal/strconv.uint64pow10", "math/bits.deBruijn32tab", "math/bits.deBruijn64tab", "internal/bytealg.MaxLen", "unicode/utf8.first", "unicode/utf8.acceptRanges"], loops := true, apart := false, laid := [("math/bits.deBruijn32tab", laid_math_bits_deBruijn32tab), ("math/bits.deBruijn64tab", laid_math_bits_deBruijn64tab), ("internal/strconv.uint64pow10", laid_internal_strconv_uint64pow10), ("unicode/utf8.acceptRanges", laid_unicode_utf8_acceptRanges), ("unicode/utf8.first", laid_unicode_utf8_first)] }
def AclFrontSaid : Prop := aclFrontRow.holds Tryz.pinned (OpenSpec.ofChange aclFrontSpec)

/-- ITS FALSE NEIGHBOUR: 'it returns false'. Refute it at one input. -/
def aclFrontWrong : ChangeSpec := { name := "aclFront", fn := fun _ => fun
  | [d1, d2] => { results := [.lit (.bool false)], args := [d1, d2] }
  | _ => none }
def AclFrontWrongFalsely : Prop := aclFrontRow.holds Tryz.pinned (OpenSpec.ofChange aclFrontWrong)

/-- 'greffierlaw20.AclSame': WHATEVER THE INPUT: true; the input reads as it did. -/
def aclSameSpec : ChangeSpec := { name := "aclSame", fn := fun _ => fun
  | [d1, d2] => { results := [.lit (.bool true)], args := [d1, d2] }
  | _ => none }
def aclSameRow : OpenClaim := { program := "ytfammdfpgccnfaagreatdoor", sum := "6e4b8fc28aef2663d8447e8d2850d00b7cbe8dc7a658519ca72525c2f9997619", func := "greffier/greffierlaw20.AclSame", spec := "aclSame", inPlace := ["internal/bytealg.Compare", "math.Float64frombits", "internal/bytealg.IndexByte", "internal/bytealg.Index", "math.Float64bits", "internal/abi.NoEscape"], unfollowed := true, recurses := true, named := ["internal/strconv.uint64pow10", "math/bits.deBruijn32tab", "math/bits.deBruijn64tab", "internal/bytealg.MaxLen", "unicode/utf8.first", "unicode/utf8.acceptRanges"], loops := true, apart := false, laid := [("math/bits.deBruijn32tab", laid_math_bits_deBruijn32tab), ("math/bits.deBruijn64tab", laid_math_bits_deBruijn64tab), ("internal/strconv.uint64pow10", laid_internal_strconv_uint64pow10), ("unicode/utf8.acceptRanges", laid_unicode_utf8_acceptRanges), ("unicode/utf8.first", laid_unicode_utf8_first)] }
def AclSameSaid : Prop := aclSameRow.holds Tryz.pinned (OpenSpec.ofChange aclSameSpec)

/-- ITS FALSE NEIGHBOUR: 'it returns false'. Refute it at one input. -/
def aclSameWrong : ChangeSpec := { name := "aclSame", fn := fun _ => fun
  | [d1, d2] => { results := [.lit (.bool false)], args := [d1, d2] }
  | _ => none }
def AclSameWrongFalsely : Prop := aclSameRow.holds Tryz.pinned (OpenSpec.ofChange aclSameWrong)

/-- 'greffierlaw17.CertReads': WHATEVER THE INPUT: true; the input reads as it did. -/
def certReadsSpec : ChangeSpec := { name := "certReads", fn := fun _ => fun
  | [d] => { results := [.lit (.bool true)], args := [d] }
  | _ => none }
def certReadsRow : OpenClaim := { program := "ytfammdfpgccnfaagreatdoor", sum := "6e4b8fc28aef2663d8447e8d2850d00b7cbe8dc7a658519ca72525c2f9997619", func := "greffier/greffierlaw17.CertReads", spec := "certReads", inPlace := ["internal/bytealg.Compare", "math.Float64frombits", "internal/bytealg.IndexByte", "internal/bytealg.Index", "math.Float64bits", "internal/abi.NoEscape"], unfollowed := true, recurses := true, named := ["internal/strconv.uint64pow10", "math/bits.deBruijn32tab", "math/bits.deBruijn64tab", "internal/bytealg.MaxLen", "unicode/utf8.first", "unicode/utf8.acceptRanges"], loops := true, apart := false, laid := [("math/bits.deBruijn32tab", laid_math_bits_deBruijn32tab), ("math/bits.deBruijn64tab", laid_math_bits_deBruijn64tab), ("internal/strconv.uint64pow10", laid_internal_strconv_uint64pow10), ("unicode/utf8.acceptRanges", laid_unicode_utf8_acceptRanges), ("unicode/utf8.first", laid_unicode_utf8_first)] }
def CertReadsSaid : Prop := certReadsRow.holds Tryz.pinned (OpenSpec.ofChange certReadsSpec)

/-- ITS FALSE NEIGHBOUR: 'it returns false'. Refute it at one input. -/
def certReadsWrong : ChangeSpec := { name := "certReads", fn := fun _ => fun
  | [d] => { results := [.lit (.bool false)], args := [d] }
  | _ => none }
def CertReadsWrongFalsely : Prop := certReadsRow.holds Tryz.pinned (OpenSpec.ofChange certReadsWrong)

/-- 'greffierlaw17.CertWrites': WHATEVER THE INPUT: true; the input reads as it did. -/
def certWritesSpec : ChangeSpec := { name := "certWrites", fn := fun _ => fun
  | [d] => { results := [.lit (.bool true)], args := [d] }
  | _ => none }
def certWritesRow : OpenClaim := { program := "ytfammdfpgccnfaagreatdoor", sum := "6e4b8fc28aef2663d8447e8d2850d00b7cbe8dc7a658519ca72525c2f9997619", func := "greffier/greffierlaw17.CertWrites", spec := "certWrites", inPlace := ["internal/bytealg.Compare", "math.Float64frombits", "internal/bytealg.IndexByte", "internal/bytealg.Index", "math.Float64bits", "internal/abi.NoEscape"], unfollowed := true, recurses := true, named := ["internal/strconv.uint64pow10", "math/bits.deBruijn32tab", "math/bits.deBruijn64tab", "internal/bytealg.MaxLen", "unicode/utf8.first", "unicode/utf8.acceptRanges"], loops := true, apart := false, laid := [("math/bits.deBruijn32tab", laid_math_bits_deBruijn32tab), ("math/bits.deBruijn64tab", laid_math_bits_deBruijn64tab), ("internal/strconv.uint64pow10", laid_internal_strconv_uint64pow10), ("unicode/utf8.acceptRanges", laid_unicode_utf8_acceptRanges), ("unicode/utf8.first", laid_unicode_utf8_first)] }
def CertWritesSaid : Prop := certWritesRow.holds Tryz.pinned (OpenSpec.ofChange certWritesSpec)

/-- ITS FALSE NEIGHBOUR: 'it returns false'. Refute it at one input. -/
def certWritesWrong : ChangeSpec := { name := "certWrites", fn := fun _ => fun
  | [d] => { results := [.lit (.bool false)], args := [d] }
  | _ => none }
def CertWritesWrongFalsely : Prop := certWritesRow.holds Tryz.pinned (OpenSpec.ofChange certWritesWrong)

/- THE SECOND FORM. 'bulk': how many values and letters a reading holds, each counted each time it is reached (what is shared counts as often as it is met; a slice's spare places count too). A statement '..UptoSaid' is the law's where the arguments, and the package variables that the reading takes, are together of bulk at most 1048576: NARROWER than '..Said'. Prove '..Said' where nothing that the law and all that it calls make is longer than what came in: it says more and counts as full. Else prove '..UptoSaid'. A law counts once. -/
mutual
def uptoBulk {H : Type} : DataW H → Nat
  | .lit (.string bytes) => bytes.length + 1
  | .lit _ => 1
  | .nil => 1
  | .ptr d => uptoBulk d + 1
  | .slice elems spare => uptoBulkAll elems + uptoBulkAll spare + 1
  | .agg parts => uptoBulkAll parts + 1
  | .iface _ d => uptoBulk d + 1
  | .map entries => uptoBulkEntries entries + 1
  | .held _ => 1
def uptoBulkAll {H : Type} : List (DataW H) → Nat
  | [] => 0
  | d :: r => uptoBulk d + uptoBulkAll r
def uptoBulkEntries {H : Type} : List (Lit × DataW H) → Nat
  | [] => 0
  | x :: r => uptoBulkEntry x + uptoBulkEntries r
def uptoBulkEntry {H : Type} : Lit × DataW H → Nat
  | (.string bytes, d) => bytes.length + uptoBulk d + 1
  | (_, d) => uptoBulk d + 1
 end
def uptoSmall : (H : Type) → List (DataW H) → Bool := fun _ ds => decide (uptoBulkAll ds ≤ 1048576)
def OpenSpec.upto (s : _root_.Go.ChangeSpec) : _root_.Go.OpenSpec := { _root_.Go.OpenSpec.ofChange s with cond := some uptoSmall }

/-- 'greffierlaw17.CertSame', WHERE WHAT IT READS IS OF BULK AT MOST 1048576: true; the input reads as it did. -/
def certSameUptoRow : OpenClaim := { program := "ytfammdfpgccnfaagreatdoor", sum := "6e4b8fc28aef2663d8447e8d2850d00b7cbe8dc7a658519ca72525c2f9997619", func := "greffier/greffierlaw17.CertSame", spec := "certSame", inPlace := ["internal/bytealg.Compare", "math.Float64frombits", "internal/bytealg.IndexByte", "internal/bytealg.Index", "math.Float64bits", "internal/abi.NoEscape"], unfollowed := true, recurses := true, named := ["internal/strconv.uint64pow10", "math/bits.deBruijn32tab", "math/bits.deBruijn64tab", "internal/bytealg.MaxLen", "unicode/utf8.first", "unicode/utf8.acceptRanges"], loops := true, apart := false, laid := [("math/bits.deBruijn32tab", laid_math_bits_deBruijn32tab), ("math/bits.deBruijn64tab", laid_math_bits_deBruijn64tab), ("internal/strconv.uint64pow10", laid_internal_strconv_uint64pow10), ("unicode/utf8.acceptRanges", laid_unicode_utf8_acceptRanges), ("unicode/utf8.first", laid_unicode_utf8_first)], narrowed := true }
def CertSameUptoSaid : Prop := certSameUptoRow.holds Tryz.pinned (OpenSpec.upto certSameSpec)

/-- 'greffierlaw17.CertOne', WHERE WHAT IT READS IS OF BULK AT MOST 1048576: true; the input reads as it did. -/
def certOneUptoRow : OpenClaim := { program := "ytfammdfpgccnfaagreatdoor", sum := "6e4b8fc28aef2663d8447e8d2850d00b7cbe8dc7a658519ca72525c2f9997619", func := "greffier/greffierlaw17.CertOne", spec := "certOne", inPlace := ["internal/bytealg.Compare", "math.Float64frombits", "internal/bytealg.IndexByte", "internal/bytealg.Index", "math.Float64bits", "internal/abi.NoEscape"], unfollowed := true, recurses := true, named := ["internal/strconv.uint64pow10", "math/bits.deBruijn32tab", "math/bits.deBruijn64tab", "internal/bytealg.MaxLen", "unicode/utf8.first", "unicode/utf8.acceptRanges"], loops := true, apart := false, laid := [("math/bits.deBruijn32tab", laid_math_bits_deBruijn32tab), ("math/bits.deBruijn64tab", laid_math_bits_deBruijn64tab), ("internal/strconv.uint64pow10", laid_internal_strconv_uint64pow10), ("unicode/utf8.acceptRanges", laid_unicode_utf8_acceptRanges), ("unicode/utf8.first", laid_unicode_utf8_first)], narrowed := true }
def CertOneUptoSaid : Prop := certOneUptoRow.holds Tryz.pinned (OpenSpec.upto certOneSpec)

/-- 'greffierlaw20.AclWrites', WHERE WHAT IT READS IS OF BULK AT MOST 1048576: true; the input reads as it did. -/
def aclWritesUptoRow : OpenClaim := { program := "ytfammdfpgccnfaagreatdoor", sum := "6e4b8fc28aef2663d8447e8d2850d00b7cbe8dc7a658519ca72525c2f9997619", func := "greffier/greffierlaw20.AclWrites", spec := "aclWrites", inPlace := ["internal/bytealg.Compare", "math.Float64frombits", "internal/bytealg.IndexByte", "internal/bytealg.Index", "math.Float64bits", "internal/abi.NoEscape"], unfollowed := true, recurses := true, named := ["internal/strconv.uint64pow10", "math/bits.deBruijn32tab", "math/bits.deBruijn64tab", "internal/bytealg.MaxLen", "unicode/utf8.first", "unicode/utf8.acceptRanges"], loops := true, apart := false, laid := [("math/bits.deBruijn32tab", laid_math_bits_deBruijn32tab), ("math/bits.deBruijn64tab", laid_math_bits_deBruijn64tab), ("internal/strconv.uint64pow10", laid_internal_strconv_uint64pow10), ("unicode/utf8.acceptRanges", laid_unicode_utf8_acceptRanges), ("unicode/utf8.first", laid_unicode_utf8_first)], narrowed := true }
def AclWritesUptoSaid : Prop := aclWritesUptoRow.holds Tryz.pinned (OpenSpec.upto aclWritesSpec)

/-- 'greffierlaw20.AclReads', WHERE WHAT IT READS IS OF BULK AT MOST 1048576: true; the input reads as it did. -/
def aclReadsUptoRow : OpenClaim := { program := "ytfammdfpgccnfaagreatdoor", sum := "6e4b8fc28aef2663d8447e8d2850d00b7cbe8dc7a658519ca72525c2f9997619", func := "greffier/greffierlaw20.AclReads", spec := "aclReads", inPlace := ["internal/bytealg.Compare", "math.Float64frombits", "internal/bytealg.IndexByte", "internal/bytealg.Index", "math.Float64bits", "internal/abi.NoEscape"], unfollowed := true, recurses := true, named := ["internal/strconv.uint64pow10", "math/bits.deBruijn32tab", "math/bits.deBruijn64tab", "internal/bytealg.MaxLen", "unicode/utf8.first", "unicode/utf8.acceptRanges"], loops := true, apart := false, laid := [("math/bits.deBruijn32tab", laid_math_bits_deBruijn32tab), ("math/bits.deBruijn64tab", laid_math_bits_deBruijn64tab), ("internal/strconv.uint64pow10", laid_internal_strconv_uint64pow10), ("unicode/utf8.acceptRanges", laid_unicode_utf8_acceptRanges), ("unicode/utf8.first", laid_unicode_utf8_first)], narrowed := true }
def AclReadsUptoSaid : Prop := aclReadsUptoRow.holds Tryz.pinned (OpenSpec.upto aclReadsSpec)

/-- 'greffierlaw20.AclFront', WHERE WHAT IT READS IS OF BULK AT MOST 1048576: true; the input reads as it did. -/
def aclFrontUptoRow : OpenClaim := { program := "ytfammdfpgccnfaagreatdoor", sum := "6e4b8fc28aef2663d8447e8d2850d00b7cbe8dc7a658519ca72525c2f9997619", func := "greffier/greffierlaw20.AclFront", spec := "aclFront", inPlace := ["internal/bytealg.Compare", "math.Float64frombits", "internal/bytealg.IndexByte", "internal/bytealg.Index", "math.Float64bits", "internal/abi.NoEscape"], unfollowed := true, recurses := true, named := ["internal/strconv.uint64pow10", "math/bits.deBruijn32tab", "math/bits.deBruijn64tab", "internal/bytealg.MaxLen", "unicode/utf8.first", "unicode/utf8.acceptRanges"], loops := true, apart := false, laid := [("math/bits.deBruijn32tab", laid_math_bits_deBruijn32tab), ("math/bits.deBruijn64tab", laid_math_bits_deBruijn64tab), ("internal/strconv.uint64pow10", laid_internal_strconv_uint64pow10), ("unicode/utf8.acceptRanges", laid_unicode_utf8_acceptRanges), ("unicode/utf8.first", laid_unicode_utf8_first)], narrowed := true }
def AclFrontUptoSaid : Prop := aclFrontUptoRow.holds Tryz.pinned (OpenSpec.upto aclFrontSpec)

/-- 'greffierlaw20.AclSame', WHERE WHAT IT READS IS OF BULK AT MOST 1048576: true; the input reads as it did. -/
def aclSameUptoRow : OpenClaim := { program := "ytfammdfpgccnfaagreatdoor", sum := "6e4b8fc28aef2663d8447e8d2850d00b7cbe8dc7a658519ca72525c2f9997619", func := "greffier/greffierlaw20.AclSame", spec := "aclSame", inPlace := ["internal/bytealg.Compare", "math.Float64frombits", "internal/bytealg.IndexByte", "internal/bytealg.Index", "math.Float64bits", "internal/abi.NoEscape"], unfollowed := true, recurses := true, named := ["internal/strconv.uint64pow10", "math/bits.deBruijn32tab", "math/bits.deBruijn64tab", "internal/bytealg.MaxLen", "unicode/utf8.first", "unicode/utf8.acceptRanges"], loops := true, apart := false, laid := [("math/bits.deBruijn32tab", laid_math_bits_deBruijn32tab), ("math/bits.deBruijn64tab", laid_math_bits_deBruijn64tab), ("internal/strconv.uint64pow10", laid_internal_strconv_uint64pow10), ("unicode/utf8.acceptRanges", laid_unicode_utf8_acceptRanges), ("unicode/utf8.first", laid_unicode_utf8_first)], narrowed := true }
def AclSameUptoSaid : Prop := aclSameUptoRow.holds Tryz.pinned (OpenSpec.upto aclSameSpec)

/-- 'greffierlaw17.CertReads', WHERE WHAT IT READS IS OF BULK AT MOST 1048576: true; the input reads as it did. -/
def certReadsUptoRow : OpenClaim := { program := "ytfammdfpgccnfaagreatdoor", sum := "6e4b8fc28aef2663d8447e8d2850d00b7cbe8dc7a658519ca72525c2f9997619", func := "greffier/greffierlaw17.CertReads", spec := "certReads", inPlace := ["internal/bytealg.Compare", "math.Float64frombits", "internal/bytealg.IndexByte", "internal/bytealg.Index", "math.Float64bits", "internal/abi.NoEscape"], unfollowed := true, recurses := true, named := ["internal/strconv.uint64pow10", "math/bits.deBruijn32tab", "math/bits.deBruijn64tab", "internal/bytealg.MaxLen", "unicode/utf8.first", "unicode/utf8.acceptRanges"], loops := true, apart := false, laid := [("math/bits.deBruijn32tab", laid_math_bits_deBruijn32tab), ("math/bits.deBruijn64tab", laid_math_bits_deBruijn64tab), ("internal/strconv.uint64pow10", laid_internal_strconv_uint64pow10), ("unicode/utf8.acceptRanges", laid_unicode_utf8_acceptRanges), ("unicode/utf8.first", laid_unicode_utf8_first)], narrowed := true }
def CertReadsUptoSaid : Prop := certReadsUptoRow.holds Tryz.pinned (OpenSpec.upto certReadsSpec)

/-- 'greffierlaw17.CertWrites', WHERE WHAT IT READS IS OF BULK AT MOST 1048576: true; the input reads as it did. -/
def certWritesUptoRow : OpenClaim := { program := "ytfammdfpgccnfaagreatdoor", sum := "6e4b8fc28aef2663d8447e8d2850d00b7cbe8dc7a658519ca72525c2f9997619", func := "greffier/greffierlaw17.CertWrites", spec := "certWrites", inPlace := ["internal/bytealg.Compare", "math.Float64frombits", "internal/bytealg.IndexByte", "internal/bytealg.Index", "math.Float64bits", "internal/abi.NoEscape"], unfollowed := true, recurses := true, named := ["internal/strconv.uint64pow10", "math/bits.deBruijn32tab", "math/bits.deBruijn64tab", "internal/bytealg.MaxLen", "unicode/utf8.first", "unicode/utf8.acceptRanges"], loops := true, apart := false, laid := [("math/bits.deBruijn32tab", laid_math_bits_deBruijn32tab), ("math/bits.deBruijn64tab", laid_math_bits_deBruijn64tab), ("internal/strconv.uint64pow10", laid_internal_strconv_uint64pow10), ("unicode/utf8.acceptRanges", laid_unicode_utf8_acceptRanges), ("unicode/utf8.first", laid_unicode_utf8_first)], narrowed := true }
def CertWritesUptoSaid : Prop := certWritesUptoRow.holds Tryz.pinned (OpenSpec.upto certWritesSpec)

end Rows
end Go.Proofs.YtfammdfpgccnfaaGreatDoor
