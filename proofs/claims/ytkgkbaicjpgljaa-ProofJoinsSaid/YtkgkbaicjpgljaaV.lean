/- More words for memory. -/
import Derived.Test.YtkgkbaicjpgljaaW
namespace Go.Proofs.Ytkgkbaicjpgljaa
open Go.RowKit

section
variable {α : Type} {w w' : World} {S : Nat → Prop}
/-- A block that is known whole reads as a slice. -/
theorem sl_box {r : Rep α} {g : Nat} {cs : Array Value} {t : TypeId} {xs : List α} {n c : Nat} (h : w.heap[g]? = some (.cells cs t (0, 0))) (hg : S g) (hn : xs.length = n) (hc : n ≤ c) (hm : c ≤ 9223372036854775807)
    (hr : ∀ i x, xs[i]? = some x → r.rd w S ((cs.toList.drop (i * r.size)).take r.size) x) : r.sl w S (some ⟨g, 0, none⟩) n c xs := by
  refine ⟨hn, hc, hm, fun _ => ⟨g, 0, rfl, hg, fun i x hx => ⟨_, hr i x hx, fun j u hu => ?_⟩⟩⟩
  have hj : j < r.size := by
    have := (List.getElem?_eq_some_iff.1 hu).1
    rw [r.len (hr i x hx)] at this
    exact this
  rw [List.getElem?_take, if_pos hj, List.getElem?_drop] at hu
  rw [Nat.zero_add]
  exact boxed h _ _ hu
end
end Go.Proofs.Ytkgkbaicjpgljaa
