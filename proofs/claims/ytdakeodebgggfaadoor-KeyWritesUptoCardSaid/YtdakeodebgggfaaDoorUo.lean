/- What the cards' proofs share: the tables, a world for the witness, arguments opened. -/
import Derived.Test.YtdakeodebgggfaaDoorCards
import Derived.Test.YtdakeodebgggfaaDoorTie
import Derived.Test.YtdakeodebgggfaaDoorTb
import Derived.Test.YtdakeodebgggfaaDoorTk
import Derived.WalkKit
import Derived.ProofKit
import Derived.OpenShut
import Derived.Deep.DeepHandedRow
import Derived.Lib.LaidTab
import Derived.Stop.LaidErr
namespace Go.Proofs.YtdakeodebgggfaaDoor
open Go.ChangeShapes Go.WideShapes Go.ChangeAt Go.RowKit
set_option maxRecDepth 100000

theorem ownK : ownKnob Tryd.prog.godebug = none := by kernel_rfl
theorem laidK : laidOutB Tryd.prog = true := by kernel_rfl
theorem gPow : Tryd.prog.globalNamed "internal/strconv.uint64pow10" = some 0 := by kernel_rfl
theorem gPowType : (Tryd.prog.globals[0]?).map (·.type) = some 111 := by kernel_rfl
/-- What the rows' list gives. -/
def laid3 {H : Type} : List (String × DataW H) := [("math/bits.deBruijn32tab", Rows.laid_math_bits_deBruijn32tab), ("math/bits.deBruijn64tab", Rows.laid_math_bits_deBruijn64tab), ("internal/strconv.uint64pow10", Rows.laid_internal_strconv_uint64pow10)]
theorem tabs_of_laid {W : World} (h : laidMetH Tryd.prog laid3 W) : Tabs W.heap.size W := by
  have h3 : laidMet Tryd.prog [("internal/strconv.uint64pow10", Lib.tabData .u64 Lib.pow10Tab)] W := laidMet.tail (laidMet.tail h)
  exact Lib.tabBelow_of_tabIs (Lib.tabIs_of_head (rest := []) gPow gPowType Tryd.underlying111 Tryd.underlying82 (by kernel_rfl) (by kernel_rfl) h3)
def laidAt (k : IntKind) (zs : List Int) : Obj → Obj
  | .cells _ t frozen => .cells (zs.map fun z => .int k z).toArray t frozen
  | o => o
def ints {H : Type} : DataW H → List Int
  | .agg l => l.map fun | .lit (.int _ z) => z | _ => 0
  | _ => []
noncomputable def laidWorld (os : Os) : World :=
  { World.holding Tryd.prog os ⟨#[], #[], []⟩ with heap := (((World.holding Tryd.prog os ⟨#[], #[], []⟩).heap.modify 0 (laidAt .u64 (ints (H := Unit) Rows.laid_internal_strconv_uint64pow10))).modify 1 (laidAt .u8 (ints (H := Unit) Rows.laid_math_bits_deBruijn32tab))).modify 2 (laidAt .u8 (ints (H := Unit) Rows.laid_math_bits_deBruijn64tab)) }
theorem laid_met (os : Os) (args : Array Value) : laidMet Tryd.prog laid3 ((laidWorld os).forCall (fun _ _ => 0) ⟨#[], args, []⟩).memory :=
  laidMet_of_run' 8 (by kernel_rfl) (by kernel_rfl)
theorem opens_sexp (fuel : Nat) : OpensN Tryd.prog fuel 25 Rep.tree Tree.wt :=
  opensN_tree Tryd.underlying25 (by kernel_rfl) (by kernel_rfl) Tryd.underlying4 Tryd.underlying22 Tryd.underlying5 Tryd.underlying23 (by kernel_rfl) (by kernel_rfl) (by kernel_rfl) (by kernel_rfl) fuel
theorem bulk_le {H : Type} {l : List (DataW H)} (hk : Rows.uptoSmall H l = true) : Rows.uptoBulkAll l ≤ 1048576 := of_decide_eq_true hk
end Go.Proofs.YtdakeodebgggfaaDoor
