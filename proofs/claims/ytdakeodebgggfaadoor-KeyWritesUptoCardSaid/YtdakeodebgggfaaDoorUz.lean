/- Bytes of zero made. -/
import Derived.Test.YtdakeodebgggfaaDoorTg
namespace Go.Proofs.YtdakeodebgggfaaDoor
open Go.RowKit
set_option linter.unusedVariables false
set_option linter.unusedSimpArgs false

def zeroL (n : Nat) : List UInt8 := List.replicate n 0
theorem zeroL_len (n : Nat) : (zeroL n).length = n := List.length_replicate
/-- 'make([]byte, n)'. -/
theorem make_u8 {P : Program} {t e : TypeId} (T : ElemT P t e (.int .u8 0) 1 1) (w : World) (n : Nat) (hn : n ≤ 1000000000) :
    ∃ w', (Instr.makeSlice t (.int .i64 (n : Int)) (.int .i64 (n : Int))).run P w = .ok (.slice (some ⟨w.heap.size, 0, none⟩) n n) w' ∧ Rep.u8.sl w' (fun b => w.heap.size ≤ b ∧ b < w'.heap.size) (some ⟨w.heap.size, 0, none⟩) n n (zeroL n) ∧ Below w.heap.size w w' := by
  rw [zeroL]
  obtain ⟨i, hi, hz, hs, hb⟩ := info_parts T.info
  obtain ⟨w', hrun, ho, hg⟩ := run_make_full (P := P) w w.heap.size t e i (.int .u8 0) 1 T.und hi hz hs .i64 .i64 n (by rw [hb]; omega) (by simp [maxLen]; omega) (Nat.le_refl _)
  have hown : Rep.u8.own e w' w.heap.size (fun _ => False) (.slice (some ⟨w.heap.size, 0, none⟩) n n) (List.replicate n (0 : UInt8)) := by
    refine ⟨_, by rw [List.length_replicate]; exact ho, fun j x hj => ?_⟩
    rw [show Rep.u8.size = 1 from rfl, Nat.mul_one, Nat.mul_one, show (Value.int IntKind.u8 0).cells = #[.int .u8 0] from rfl, toList_madeCells_one]
    have hjn : j < n := by
      have := (List.getElem?_eq_some_iff.1 hj).1
      simpa using this
    simp [hjn] at hj
    subst hj
    rw [List.take_one, List.head?_drop]
    simp only [List.getElem?_replicate, hjn, if_true, Option.toList_some]
    exact rd_u8 rfl
  obtain ⟨A, c, he, hsl⟩ := Rep.own_sl hown
  have hlt := Rep.own_lt hown
  simp only [Value.slice.injEq, List.length_replicate] at he
  obtain ⟨rfl, _, rfl⟩ := he
  rw [List.length_replicate] at hsl
  refine ⟨w', hrun, Rep.sl_more hsl fun b hb => ?_, (Below.refl w.heap.size w).grown hg (Nat.le_refl _) fun k hk => by cases hk⟩
  rcases hb with hb | hb
  · exact hb.elim
  · exact hlt b hb

end Go.Proofs.YtdakeodebgggfaaDoor
