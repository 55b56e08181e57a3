/- What the rows' proofs of package proof share: how a line is opened. -/
import Derived.Test.YtkgkbaicjpgljaaRows
import Derived.Test.YtkgkbaicjpgljaaO
import Derived.Test.YtkgkbaicjpgljaaPa
namespace Go.Proofs.Ytkgkbaicjpgljaa
open Go.ChangeShapes Go.WideShapes Go.ChangeAt Go.RowKit
set_option linter.unusedVariables false

theorem own : ownKnob Try.prog.godebug = none := by kernel_rfl
theorem laidOut : laidOutB Try.prog = true := by kernel_rfl

theorem opens_line : Opens Try.prog 42 Rep.line := by
  refine ⟨by kernel_rfl, fun H enc w sp held fuel cs x h => ?_⟩
  obtain ⟨_, _, _, _, hcl, _, _⟩ := DataW.trod_struct Try.underlying42 h
  have hc : cs.length = 7 := hcl.trans (by kernel_rfl)
  match cs, hc with
  | [c0, c1, c2, c3, c4, c5, c6], _ =>
    have s1 : Try.prog.cellsOf 3 = 1 := by kernel_rfl
    have sb : Try.prog.cellsOf 4 = 1 := by kernel_rfl
    have ss : Try.prog.cellsOf 9 = 1 := by kernel_rfl
    obtain ⟨_, _, f0⟩ := trod_part Try.underlying42 h 0 rfl (s := 1) (by kernel_rfl)
    obtain ⟨_, _, f1⟩ := trod_part Try.underlying42 h 1 rfl s1
    obtain ⟨_, _, f2⟩ := trod_part Try.underlying42 h 2 rfl (s := 3) (by kernel_rfl)
    obtain ⟨_, _, f3⟩ := trod_part Try.underlying42 h 3 rfl sb
    obtain ⟨_, _, f4⟩ := trod_part Try.underlying42 h 4 rfl (s := 1) (by kernel_rfl)
    obtain ⟨_, _, g0⟩ := trod_part Try.underlying39 f2 0 rfl sb
    obtain ⟨_, _, g1⟩ := trod_part Try.underlying39 f2 1 rfl s1
    obtain ⟨_, _, g2⟩ := trod_part Try.underlying39 f2 2 rfl ss
    obtain ⟨y0, h0⟩ := (opens_u8 Try.underlying5 (by kernel_rfl)).2 _ _ _ _ _ _ _ _ f0
    obtain ⟨y1, h1⟩ := (opens_i64 Try.underlying3 s1).2 _ _ _ _ _ _ _ _ f1
    obtain ⟨y2, h2⟩ := (opens_bool Try.underlying4 sb).2 _ _ _ _ _ _ _ _ g0
    obtain ⟨y3, h3⟩ := (opens_i64 Try.underlying3 s1).2 _ _ _ _ _ _ _ _ g1
    obtain ⟨y4, h4⟩ := (opens_str Try.underlying9 ss).2 _ _ _ _ _ _ _ _ g2
    obtain ⟨y5, h5⟩ := (opens_bool Try.underlying4 sb).2 _ _ _ _ _ _ _ _ f3
    obtain ⟨y6, h6⟩ := (opens_slice Try.underlying40 (by kernel_rfl) (opens_i64 Try.underlying3 s1)).2 _ _ _ _ _ _ _ _ f4
    refine ⟨⟨y0, y1, y2, y3, y4, y5, y6⟩, c6, ?_, h6, h1.2, h3.2, h4.2⟩
    have e0 : [c0] = _ := h0
    have e1 : [c1] = _ := h1.1
    have e2 : [c2] = _ := h2
    have e3 : [c3] = _ := h3.1
    have e4 : [c4] = _ := h4.1
    have e5 : [c5] = _ := h5
    simp only [List.cons.injEq, and_true] at e0 e1 e2 e3 e4 e5
    rw [e0, e1, e2, e3, e4, e5]

end Go.Proofs.Ytkgkbaicjpgljaa
