/- The program: two values the same; clones of rows. -/
import Derived.Test.YtdakeodebgggfaaDoorTm
import Derived.Lib.SliceRun
namespace Go.Proofs.YtdakeodebgggfaaDoor
open Go.RowKit
set_option linter.unusedVariables false

set_option maxHeartbeats 2000000 in
set_option maxRecDepth 100000 in
theorem sxsame_c (t : Tree) : SameC t := by
  refine Tree.ind (P := SameC) (fun t ih => ?_) t
  intro u w cs ds h h'
  obtain ⟨A1, n1, c1, A2, n2, c2, A3, n3, c3, rfl, hp⟩ := Rep.tree_open h
  obtain ⟨B1, m1, d1, B2, m2, d2, B3, m3, d3, rfl, hp'⟩ := Rep.tree_open h'
  have HB0 := Lib.hid ((Below.alloc (Below.refl _ w) (Nat.le_refl _) (.cells #[.bool t.list, .bool t.hinted, .slice A1 n1 c1, .slice A2 n2 c2, .slice A3 n3 c3] 25)).alloc (by simp only [World.size_alloc]; omega) (.cells #[.bool u.list, .bool u.hinted, .slice B1 m1 d1, .slice B2 m2 d2, .slice B3 m3 d3] 25))
  have HK := Lib.hid (sl_later hp.2.2 HB0.out)
  have HK' := Lib.hid (sl_later hp'.2.2 HB0.out)
  have HA := Lib.hid (sl_later hp.1 HB0.out)
  have HA' := Lib.hid (sl_later hp'.1 HB0.out)
  have HD := Lib.hid (sl_later hp.2.1 HB0.out)
  have HD' := Lib.hid (sl_later hp'.2.1 HB0.out)
  have IH := Lib.hid ih
  have HEX : Hid (t = u ↔ t.list = u.list ∧ t.hinted = u.hinted ∧ t.hint = u.hint ∧ t.data = u.data ∧ t.kids = u.kids) := Tree.ext_iff
  clear ih h h' hp hp'
  generalize hl : t.list = l at *
  generalize hh : t.hinted = hi at *
  generalize hl' : u.list = l' at *
  generalize hh' : u.hinted = hi' at *
  clear hl hh hl' hh'
  go_enter Tryd.func40, Tryd.ntmps40
  by_cases p1 : l = l'
  case neg =>
    have HE : Hid (t.same u = false) := Tree.same_false fun e => p1 (HEX.out.1 e).1
    cases l <;> cases l'
    all_goals first | (exact absurd rfl p1) | skip
    all_goals
      go_wp2
      go_ret
      exact ⟨by rw [HE.out]; rfl, HB0.out⟩
  subst p1
  by_cases p2 : hi = hi'
  case neg =>
    have HE : Hid (t.same u = false) := Tree.same_false fun e => p2 (HEX.out.1 e).2.1
    cases hi <;> cases hi'
    all_goals first | (exact absurd rfl p2) | skip
    all_goals
      go_wp2
      go_ret
      exact ⟨by rw [HE.out]; rfl, HB0.out⟩
  subst p2
  go_wp2_with fail
  refine Calls.mono (equal_c _ _ _ _ _ _ _ _ _ _ _ HA.out HA'.out) ?_
  rintro e w1 ⟨rfl, rfl⟩
  cases q1 : (t.hint == u.hint)
  · have HE : Hid (t.same u = false) := Tree.same_false fun e => by have := (HEX.out.1 e).2.2.1; rw [this] at q1; simp at q1
    clear q1
    go_wp2
    go_ret
    exact ⟨by rw [HE.out]; rfl, HB0.out⟩
  have Q1 := Lib.hid q1
  clear q1
  go_wp2_with fail
  refine Calls.mono (equal_c _ _ _ _ _ _ _ _ _ _ _ HD.out HD'.out) ?_
  rintro e w1 ⟨rfl, rfl⟩
  cases q2 : (t.data == u.data)
  · have HE : Hid (t.same u = false) := Tree.same_false fun e => by have := (HEX.out.1 e).2.2.2.1; rw [this] at q2; simp at q2
    clear q2
    go_wp2
    go_ret
    exact ⟨by rw [HE.out]; rfl, HB0.out⟩
  have HQ : Hid (sameL t.kids u.kids = t.same u) := by
    show _ = _
    have e1 : t.hint = u.hint := by simpa using Q1.out
    have e2 : t.data = u.data := by simpa using q2
    rw [Bool.eq_iff_iff, sameL_true, Tree.same_true, HEX.out]
    exact ⟨fun h => ⟨by trivial, by trivial, e1, e2, h⟩, fun h => h.2.2.2.2⟩
  clear q2
  go_wp2_with fail
  refine Calls.mono (eqfunc_c _ _ _ _ _ _ _ _ _ HK.out HK'.out IH.out) ?_
  rintro e w1 ⟨rfl, hB1⟩
  have HB1 := Lib.hid (below_then HB0.out hB1)
  clear hB1
  rw [HQ.out]
  generalize t.same u = sm at *
  go_wp2
  go_ret
  exact ⟨rfl, HB1.out⟩

/-- A row of bytes of the call's own. -/
def ClonePostB (w : World) (xs : List UInt8) (e : Ending) (w' : World) : Prop := ∃ v, e = .returned v ∧ OwnB w' w.heap.size v xs ∧ Below w.heap.size w w'
set_option maxRecDepth 100000 in
theorem bclone_c (b : List UInt8) (A : Option Addr) (n c : Nat) (w : World) (hs : Rep.u8.sl w (fun b => b < w.heap.size) A n c b) (hn : n ≤ 1000000000) :
    Calls Tryd.prog 39 #[.slice A n c] w (ClonePostB w b) := by
  have qn : ∀ (w : World) (a : Option Addr) (n c n' c' : Nat), (binOp .eql 22 (.slice a n c) (.slice none n' c')).run Tryd.prog w = .ok (.bool a.isNone) w := fun w a n c n' c' => Lib.run_eql_slice_nil w _ _ a n c n' c' Tryd.underlying22
  have HS := Lib.hid hs
  cases A with
  | none =>
    have HE : Hid (b = []) := by
      have h0 : n = 0 := by
        rcases Nat.eq_zero_or_pos n with h | h
        · exact h
        · obtain ⟨_, _, h, _⟩ := hs.2.2.2 h
          cases h
      exact List.eq_nil_of_length_eq_zero (by rw [hs.1, h0])
    clear hs
    go_enter Tryd.func39, Tryd.ntmps39
    go_wp2
    go_ret
    exact ⟨_, rfl, by rw [HE.out]; exact OwnB.nil, Below.refl _ w⟩
  | some ad =>
    have HB0 := Lib.hid (Below.alloc (Below.refl w.heap.size w) (Nat.le_refl _) (.cells #[] 5))
    have HO := Lib.hid (own_empty (w := w) (e := 5) (Nat.le_refl w.heap.size))
    clear hs
    go_enter Tryd.func39, Tryd.ntmps39
    go_wp2_with (at_builtin; refine halt ?_)
    refine go_on (wpList_appB rfl TB _ _ rfl (by rfl) HO.out (by rfl) (sl_later HS.out HB0.out) (by simp; omega) (by simp) ?_)
    intro v3 w3 ho3 hg3
    have HB3 := Lib.hid (below_own HB0.out HO.out hg3 (Nat.le_refl _))
    have HO3 := Lib.hid ho3
    clear ho3 hg3
    go_wp2
    go_ret
    exact ⟨_, rfl, HO3.out, HB3.out⟩

theorem TS : ElemT Tryd.prog 23 25 (.agg #[.bool false, .bool false, .slice none 0 0, .slice none 0 0, .slice none 0 0]) 5 80 := ⟨Tryd.underlying23, by kernel_rfl, rfl, by decide⟩
def ClonePostS (w : World) (S : Nat → Prop) (xs : List Tree) (e : Ending) (w' : World) : Prop := ∃ v, e = .returned v ∧ Rep.tree.own 25 w' w.heap.size S v xs ∧ Below w.heap.size w w'
theorem own_emptyR {α : Type} {r : Rep α} {w : World} {S : Nat → Prop} {e : TypeId} {base : Nat} (hb : base ≤ w.heap.size) (hS : ∀ b, S b → b < w.heap.size) : r.own e (w.alloc (.cells #[] e)) base S (.slice (some ⟨w.heap.size, 0, none⟩) 0 0) [] :=
  own_lit #[] [] rfl rfl hb (by omega) (by simp) hS (fun i x h => by simp at h)
set_option maxRecDepth 100000 in
theorem sclone_c (ks : List Tree) (A : Option Addr) (n c : Nat) (w : World) (S : Nat → Prop) (hS : ∀ b, S b → b < w.heap.size) (hs : Rep.tree.sl w S A n c ks) (hn : n ≤ 1000000000) :
    Calls Tryd.prog 53 #[.slice A n c] w (ClonePostS w S ks) := by
  have qn : ∀ (w : World) (a : Option Addr) (n c n' c' : Nat), (binOp .eql 23 (.slice a n c) (.slice none n' c')).run Tryd.prog w = .ok (.bool a.isNone) w := fun w a n c n' c' => Lib.run_eql_slice_nil w _ _ a n c n' c' Tryd.underlying23
  have HS := Lib.hid hs
  cases A with
  | none =>
    have HE : Hid (ks = []) := by
      have h0 : n = 0 := by
        rcases Nat.eq_zero_or_pos n with h | h
        · exact h
        · obtain ⟨_, _, h, _⟩ := hs.2.2.2 h
          cases h
      exact List.eq_nil_of_length_eq_zero (by rw [hs.1, h0])
    clear hs
    go_enter Tryd.func53, Tryd.ntmps53
    go_wp2
    go_ret
    exact ⟨_, rfl, by rw [HE.out]; exact Rep.own_nil, Below.refl _ w⟩
  | some ad =>
    have HB0 := Lib.hid (Below.alloc (Below.refl w.heap.size w) (Nat.le_refl _) (.cells #[] 25))
    have HO := Lib.hid (own_emptyR (r := Rep.tree) (w := w) (S := S) (e := 25) (Nat.le_refl w.heap.size) hS)
    clear hs
    go_enter Tryd.func53, Tryd.ntmps53
    go_wp2_with (at_builtin; refine halt ?_)
    refine go_on (wpList_appS rfl TS _ _ rfl (by rfl) HO.out (by rfl) (Rep.sl_below HS.out HB0.out hS) (by simp; omega) (by simp; omega) (by simp) (fun b hb => by have := hS b hb; exact ⟨by simp; omega, by simp [Value.ownBlock]; omega⟩) ?_)
    intro v3 w3 ho3 hg3 _
    have HB3 := Lib.hid (below_app HB0.out HO.out hg3 (Nat.le_refl _))
    have HO3 := Lib.hid ho3
    clear ho3 hg3
    go_wp2
    go_ret
    exact ⟨_, rfl, HO3.out, HB3.out⟩
end Go.Proofs.YtdakeodebgggfaaDoor
