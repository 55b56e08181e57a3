/- The reference's sum is the sum. -/
import Derived.Test.YtkgkbaicjpgljaaSn
namespace Go.Proofs.Ytkgkbaicjpgljaa
set_option linter.unusedVariables false

theorem run_eat (all : List UInt8) : ∀ k, 128 * k ≤ all.length → eatF st0 all = eatF (runB all k) (all.drop (128 * k))
  | 0, _ => rfl
  | k + 1, h => by
    rw [run_eat all k (by omega), eatF_go (by rw [List.length_drop]; omega), List.drop_drop]
    rfl
theorem run_end (all : List UInt8) : (eatF st0 all).1 = runB all (all.length / 128) := by
  rw [run_eat all (all.length / 128) (by omega), eatF_stop (by rw [List.length_drop]; omega)]
theorem ref_sum (m : List UInt8) : refS m = shaL m := by
  unfold refS
  rw [← run_end]
  show _ = digest (eatF (eatF st0 m).1 (fillB (eatF st0 m).2 m.length)).1
  have hr := eatF_rest m m.length st0 (Nat.le_refl _)
  have hz : zfill ((eatF st0 m).2.length + 1) = zfill (m.length + 1) := by
    rw [hr]
    unfold zfill
    omega
  unfold fillB
  rw [hz]
  simp only [List.append_assoc]
  rw [eatF_app m _ m.length st0 (Nat.le_refl _)]
end Go.Proofs.Ytkgkbaicjpgljaa
