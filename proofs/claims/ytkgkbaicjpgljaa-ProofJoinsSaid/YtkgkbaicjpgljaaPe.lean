/- Two rows' bytes, one behind the other, are those of both rows together: 'ProofJoins' returns true for every input. Conditions: none beyond the row's own. -/
import Derived.Test.YtkgkbaicjpgljaaRows
import Derived.Test.YtkgkbaicjpgljaaPd
namespace Go.Proofs.Ytkgkbaicjpgljaa
open Go.ChangeShapes Go.WideShapes Go.ChangeAt Go.RowKit

theorem own : ownKnob Try.prog.godebug = none := by kernel_rfl
theorem laidOut : laidOutB Try.prog = true := by kernel_rfl

theorem opens_line : Opens Try.prog 42 Rep.line := by
  refine ⟨by kernel_rfl, fun H enc w sp held fuel cs x h => ?_⟩
  obtain ⟨_, _, _, _, hcl, _, _⟩ := DataW.trod_struct Try.underlying42 h
  have hc : cs.length = 7 := hcl.trans (by kernel_rfl)
  match cs, hc with
  | [c0, c1, c2, c3, c4, c5, c6], _ =>
    have s1 : Try.prog.cellsOf 3 = 1 := by kernel_rfl
    have sb : Try.prog.cellsOf 4 = 1 := by kernel_rfl
    have ss : Try.prog.cellsOf 9 = 1 := by kernel_rfl
    obtain ⟨_, _, f0⟩ := trod_part Try.underlying42 h 0 rfl (s := 1) (by kernel_rfl)
    obtain ⟨_, _, f1⟩ := trod_part Try.underlying42 h 1 rfl s1
    obtain ⟨_, _, f2⟩ := trod_part Try.underlying42 h 2 rfl (s := 3) (by kernel_rfl)
    obtain ⟨_, _, f3⟩ := trod_part Try.underlying42 h 3 rfl sb
    obtain ⟨_, _, f4⟩ := trod_part Try.underlying42 h 4 rfl (s := 1) (by kernel_rfl)
    obtain ⟨_, _, g0⟩ := trod_part Try.underlying39 f2 0 rfl sb
    obtain ⟨_, _, g1⟩ := trod_part Try.underlying39 f2 1 rfl s1
    obtain ⟨_, _, g2⟩ := trod_part Try.underlying39 f2 2 rfl ss
    obtain ⟨y0, h0⟩ := (opens_u8 Try.underlying5 (by kernel_rfl)).2 _ _ _ _ _ _ _ _ f0
    obtain ⟨y1, h1⟩ := (opens_i64 Try.underlying3 s1).2 _ _ _ _ _ _ _ _ f1
    obtain ⟨y2, h2⟩ := (opens_bool Try.underlying4 sb).2 _ _ _ _ _ _ _ _ g0
    obtain ⟨y3, h3⟩ := (opens_i64 Try.underlying3 s1).2 _ _ _ _ _ _ _ _ g1
    obtain ⟨y4, h4⟩ := (opens_str Try.underlying9 ss).2 _ _ _ _ _ _ _ _ g2
    obtain ⟨y5, h5⟩ := (opens_bool Try.underlying4 sb).2 _ _ _ _ _ _ _ _ f3
    obtain ⟨y6, h6⟩ := (opens_slice Try.underlying40 (by kernel_rfl) (opens_i64 Try.underlying3 s1)).2 _ _ _ _ _ _ _ _ f4
    refine ⟨⟨y0, y1, y2, y3, y4, y5, y6⟩, c6, ?_, h6, h1.2, h3.2, h4.2⟩
    have e0 : [c0] = _ := h0
    have e1 : [c1] = _ := h1.1
    have e2 : [c2] = _ := h2
    have e3 : [c3] = _ := h3.1
    have e4 : [c4] = _ := h4.1
    have e5 : [c5] = _ := h5
    simp only [List.cons.injEq, and_true] at e0 e1 e2 e3 e4 e5
    rw [e0, e1, e2, e3, e4, e5]

set_option maxRecDepth 100000 in
theorem lifted (os : Os) (started : os.Started) (H : Type) (enc : TypeId × Value → H) :
    ReturnsInHanded {} Try.checked os 3 .any (Rows.proofJoinsSpec.pre6 enc Try.prog Try.f3 Rows.proofJoinsRow.domain false) (Rows.proofJoinsSpec.post enc Try.prog Try.f3 false true false false) := by
  refine returnsInHanded_of_change (C := Try.checked) own started (by kernel_rfl) Try.func3
    (ChangeSpec.witness6 (enc := enc) (C := Try.checked) false ⟨#[], #[.slice none 0 0, .slice none 0 0], []⟩ 8 (by kernel_rfl) (by kernel_rfl) (by kernel_rfl) (by kernel_rfl)) ?_
  intro W base args ds gs before hval0 hW hcnd _
  have hval : ∀ (j : Nat) t v, Try.f3.params[j]? = some t → args[j]? = some v → Value.okWide Try.prog W .any base t v := hval0
  have hW' := hW
  obtain ⟨p, q, hA0, hV, rfl, hfz, hnd⟩ := hW
  have hA : DataW.TrodAll enc Try.prog W 0 (fun _ => true) true Try.f3.params.toList args.toList ds p := hA0
  rw [Try.params3] at hA hval
  obtain ⟨v0, vs0, d0, ds0, p0, q0, hargs, rfl, rfl, h0, r0⟩ := trodAll_cons hA
  obtain ⟨v1, vs1, d1, ds1, p1, q1, rfl, rfl, rfl, h1, r1⟩ := trodAll_cons r0
  obtain ⟨rfl, rfl, rfl⟩ := trodAll_nil r1
  obtain rfl : args = #[v0, v1] := by cases args; simp_all
  obtain ⟨rfl, rfl⟩ := trodVars_none hV
  obtain ⟨A0, n0, c0, rfl⟩ := okWide_slice Try.underlying22 (hval 0 _ v0 rfl rfl)
  obtain ⟨A1, n1, c1, rfl⟩ := okWide_slice Try.underlying22 (hval 1 _ v1 rfl rfl)
  have k0 := h0
  have k1 := h1
  have lt0 : ∀ x ∈ p0, x.block < W.heap.size := by obtain ⟨m, hm⟩ := k0; exact DataW.trod_lt m _ _ _ hm
  have lt1 : ∀ x ∈ p1, x.block < W.heap.size := by obtain ⟨m, hm⟩ := k1; exact DataW.trod_lt m _ _ _ hm
  have ho := opens_slice Try.underlying22 (by kernel_rfl) opens_line
  obtain ⟨a, ha⟩ : ∃ a, Rep.line.slice.rd W (fun b => b < W.heap.size) [.slice A0 n0 c0] a := by
    obtain ⟨m, hm⟩ := h0
    exact ho.2 _ _ _ _ _ _ _ _ hm
  obtain ⟨b, hb⟩ : ∃ b, Rep.line.slice.rd W (fun b => b < W.heap.size) [.slice A1 n1 c1] b := by
    obtain ⟨m, hm⟩ := h1
    exact ho.2 _ _ _ _ _ _ _ _ hm
  obtain ⟨_, _, _, e0, ha⟩ := ha
  obtain ⟨_, _, _, e1, hb⟩ := hb
  simp only [List.cons.injEq, Value.slice.injEq, and_true] at e0 e1
  obtain ⟨rfl, rfl, rfl⟩ := e0
  obtain ⟨rfl, rfl, rfl⟩ := e1
  clear hA0 hval0
  refine (joins_c a b _ _ _ _ _ _ W ha hb).mono fun e W' ⟨he, bel⟩ => ?_
  subst he
  exact ⟨_, rfl, _, _, _, [], _, [], hW', trodAll_mk1 (shut_bool Try.underlying4 _), (trodAll_cons_mk (Below.trod laidOut (by kernel_rfl) (of_decide_eq_true (by kernel_rfl)) k0 bel lt0) (trodAll_cons_mk (Below.trod laidOut (by kernel_rfl) (of_decide_eq_true (by kernel_rfl)) k1 bel lt1) trodAll_mk0)), rfl, bel.frame _, fun h => by cases h⟩

theorem joins_holds : Rows.ProofJoinsSaid :=
  OpenClaim.holds_of_wide 3 Try.f3 rfl rfl rfl rfl rfl rfl rfl ⟨rfl, rfl, rfl, rfl, rfl⟩ rfl rfl rfl rfl rfl (by kernel_rfl) Try.func3 (by kernel_rfl)
    (of_decide_eq_true (by kernel_rfl)) (by unfold Func.isWrapper; first | (rw [if_pos (by decide +kernel)]; kernel_rfl) | (rw [if_neg (by decide +kernel)]; exact ⟨rfl, rfl⟩))
    (fun os started H enc _ => lifted os started H enc)
#print axioms joins_holds
end Go.Proofs.Ytkgkbaicjpgljaa
