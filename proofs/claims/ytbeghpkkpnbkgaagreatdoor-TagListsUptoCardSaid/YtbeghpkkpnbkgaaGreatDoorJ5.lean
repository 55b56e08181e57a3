/- Parts of the proof, laid together. -/
import Derived.Test.YtbeghpkkpnbkgaaGreatDoorJ4
import Derived.Defers
import Derived.Recover
import Derived.Laws.Pointers
import Derived.Deep.RegionWith
import Derived.BigQuiet
set_option linter.unusedVariables false
set_option linter.unusedSimpArgs false
set_option maxRecDepth 100000
set_option maxHeartbeats 8000000
/- Tags, plainly: how great a value is; the program's way to read a range. -/
namespace Go.Proofs.YtbeghpkkpnbkgaaGreatDoor
theorem wt_atomT (b : List UInt8) : (atomT b).wt = 1 + b.length := by
  rw [Tree.wt_eq]
  simp [atomT, Tree.hint, Tree.data, Tree.kids]
theorem wt_listT (l : List Tree) : (listT l).wt = 1 + (l.map Tree.wt).sum := by
  rw [Tree.wt_eq]
  simp [listT, Tree.hint, Tree.data, Tree.kids]
theorem wt_bdT (b : Bd) (w : List UInt8) (hw : w.length ≤ 1) : ((bdT b w).map Tree.wt).sum ≤ 5 + b.txt.length := by
  unfold bdT
  split
  · simp only [List.map_cons, List.map_nil, List.sum_cons, List.sum_nil, wt_atomT]
    split <;> simp <;> omega
  · simp
theorem ordN_len (o : UInt8) : (ordN o).length ≤ 7 := by
  unfold ordN
  generalize o.toNat - 1 = k
  match k with
  | 0 | 1 | 2 | 3 | 4 => decide
  | k + 5 => simp [ordW]
/-- How great a tag's value is. -/
theorem val_wt : ∀ t : Tg, t.val.wt ≤ t.wt + 40 * t.nodes := by
  refine Tg.ind fun t ih => ?_
  have hs : ∀ l : List Tg, (∀ x ∈ l, x.val.wt ≤ x.wt + 40 * x.nodes) → ((l.map Tg.val).map Tree.wt).sum ≤ (l.map Tg.wt).sum + 40 * (l.map Tg.nodes).sum := by
    intro l
    induction l with
    | nil => simp
    | cons x l ih =>
      intro h
      have h0 := h x (by simp)
      have := ih fun y hy => h y (by simp [hy])
      simp only [List.map_cons, List.sum_cons]
      omega
  have hk := hs t.kids ih
  have hl := wt_bdT t.lo wG (by decide)
  have hh := wt_bdT t.hi wL (by decide)
  have ho := ordN_len t.ord
  rw [Tg.wt_eq, Tg.nodes_eq, Tg.val_eq]
  repeat' split
  all_goals simp only [wt_listT, wt_atomT, List.map_cons, List.map_nil, List.map_append, List.sum_append, List.sum_cons, List.sum_nil, wStar, wSet, wPrefix, wRange, List.length_cons, List.length_nil]
  all_goals omega
/-- The program's: what isn't an atom stands for no end. -/
def endP (l : List Tree) (w : List UInt8) : Option (Bd × List Tree) := match l with
  | [] => some (Bd.none, [])
  | x :: l => if x.list || x.hinted then none else endT (x :: l) w
theorem endP_eq {l : List Tree} {w : List UInt8} {p : Bd × List Tree} (h : endP l w = some p) : endT l w = some p := by
  cases l with
  | nil => exact h
  | cons x l =>
    unfold endP at h
    dsimp only at h
    split at h
    · cases h
    · exact h
/-- Where they differ, something is left. -/
theorem endP_none {l : List Tree} {w : List UInt8} (h : endP l w = none) : endT l w = none ∨ ∃ x m, l = x :: m ∧ (x.list || x.hinted) = true ∧ endT l w = some (Bd.none, l) := by
  cases l with
  | nil => cases h
  | cons x l =>
    unfold endP at h
    dsimp only at h
    split at h
    · rename_i hx
      right
      have hb : ∀ s, isB x s = false := fun s => by
        unfold isB
        cases h1 : x.list <;> cases h2 : x.hinted <;> simp_all
      exact ⟨x, l, rfl, hx, by unfold endT; simp [hb]⟩
    · exact .inl h
section
variable (isV : UInt8 → List UInt8 → Bool)
def ends2 (l : List Tree) : Option (Bd × Bd) :=
  match endP l wG with
  | none => none
  | some (lo, l1) => match endP l1 wL with
    | none => none
    | some (hi, l2) => if emptyL l2 then some (lo, hi) else none
def ends2T (l : List Tree) : Option (Bd × Bd) :=
  match endT l wG with
  | none => none
  | some (lo, l1) => match endT l1 wL with
    | none => none
    | some (hi, l2) => if emptyL l2 then some (lo, hi) else none
theorem ends2_eq (l : List Tree) : ends2 l = ends2T l := by
  unfold ends2 ends2T
  cases h1 : endP l wG with
  | none =>
    rcases endP_none h1 with h | ⟨x, m, rfl, hx, h⟩
    · rw [h]
    · rw [h]
      dsimp only
      have hb : ∀ s, isB x s = false := fun s => by
        unfold isB
        cases h1 : x.list <;> cases h2 : x.hinted <;> simp_all
      rw [show endT (x :: m) wL = some (Bd.none, x :: m) by unfold endT; simp [hb]]
      rfl
  | some p =>
    rw [endP_eq h1]
    obtain ⟨lo, l1⟩ := p
    dsimp only
    cases h2 : endP l1 wL with
    | none =>
      rcases endP_none h2 with h | ⟨x, m, rfl, hx, h⟩
      · rw [h]
      · rw [h]
        rfl
    | some p => rw [endP_eq h2]
theorem rangeT_eq (x : Tree) (l : List Tree) : rangeT isV (x :: l) = match findW x ordW 1 with
    | none => none
    | some o => match ends2 l with
      | none => none
      | some (lo, hi) => if mayR isV (UInt8.ofNat o) lo hi then some (.mk 6 [] [] (UInt8.ofNat o) lo hi) else none := by
  rw [ends2_eq]
  unfold ends2T
  rw [rangeT]
  cases findW x ordW 1 with
  | none => rfl
  | some o =>
    dsimp only
    cases endT l wG with
    | none => rfl
    | some p =>
      obtain ⟨lo, l1⟩ := p
      dsimp only
      cases endT l1 wL with
      | none => rfl
      | some p =>
        obtain ⟨hi, l2⟩ := p
        dsimp only
        cases emptyL l2 <;> simp
theorem isB_no {x : Tree} (h : (x.list || x.hinted) = true) (s : List UInt8) : isB x s = false := by
  unfold isB
  cases h1 : x.list <;> cases h2 : x.hinted <;> simp_all
theorem isB_yes {x : Tree} (h : (x.list || x.hinted) = false) (s : List UInt8) : isB x s = (x.data == s) := by
  unfold isB
  cases h1 : x.list <;> cases h2 : x.hinted <;> simp_all
end
end Go.Proofs.YtbeghpkkpnbkgaaGreatDoor
/- The program: a value cloned; two the same. -/
namespace Go.Proofs.YtbeghpkkpnbkgaaGreatDoor
open Go.RowKit
end Go.Proofs.YtbeghpkkpnbkgaaGreatDoor
/- Two values the same: the reference's word. -/
namespace Go.Proofs.YtbeghpkkpnbkgaaGreatDoor
open Go.RowKit
theorem same_t {t u : Tree} (h : t = u) : t.same u = true := by
  unfold Tree.same
  exact @decide_eq_true _ (Classical.propDecidable _) h
theorem same_f {t u : Tree} (h : t ≠ u) : t.same u = false := by
  unfold Tree.same
  exact @decide_eq_false _ (Classical.propDecidable _) h
theorem same_of {t u : Tree} (h : t.same u = true) : t = u := by
  refine Classical.byContradiction fun hn => ?_
  rw [same_f hn] at h
  cases h
theorem sameref_m {G : Nat → Option (List D)} : ∀ (t u : Tree) (cs ds : List D), treeC t = cs → treeC u = ds → t.wt ≤ 1000000000 → Spec Tryz.prog G 21 [.g cs, .g ds] (.one (.c (.v (.bool (t.same u))))) := Tree.ind fun t ih u cs ds hcs hds hw => by
  subst hcs hds
  refine spec_of Tryz.func21 rfl rfl rfl (by kernel_rfl) rfl fun K => ?_
  rw [treeC_eq t, treeC_eq u]
  refine zA fun Kn hK => ?_
  refine zB (by kernel_rfl) ?_
  (iterate 2 ((try simp (maxSteps := 9999999) (implicitDefEqProofs := false) only [go_sem, true_and]); (try simp (maxSteps := 9999999) (disch := omega) only [wq])))
  refine hK _ ?_; clear hK; clear Kn
  refine zA fun Kn hK => ?_
  have hL : (t.list = u.list ∧ t.hinted = u.hinted ∧ t.hint = u.hint ∧ t.data = u.data ∧ t.kids.length = u.kids.length) → ∀ s, LessL (renK []) ⟨[(2, vP 2 0), (3, vP 3 0)], [(2, some ⟨27, treeK t, true, false⟩), (3, some ⟨27, treeK u, true, false⟩)]⟩ (Fr0 Tryz.f21.ntmps) s → Kn s := by
    intro hf s hl
    refine hK _ (sound_lessR _ _ hl ?_)
    clear hK hl
    (repeat' (first | with_reducible (first | refine zA fun Kn hK => ?_ | refine zB (by kernel_rfl) ?_ | refine Nx.go ?_ | go_step) | fail | with_reducible (first | refine zI ?_ | refine zJ ?_ | refine zK ?_ ?_ | refine zL ?_ ?_ | refine zR (by kernel_rfl) ?_) | simp (maxSteps := 9999999) (disch := omega) only [wq] | (with_reducible refine zM (fun hb => ?_) (fun hb => ?_) <;> (try simp only [hb])) | (with_reducible refine And.intro (by first | omega | (simp; done) | (simp; omega)) ?_) | simp (maxSteps := 9999999) (implicitDefEqProofs := false) only [go_sem, true_and] | fail))
    refine sound_loopR (fun x : {k : Nat // k ≤ t.kids.length ∧ t.kids.take k = u.kids.take k} => ⟨[(2, vP 2 0), (3, vP 3 0), (47, vI t.kids.length), (48, vI x.1)], [(2, some ⟨27, treeK t, true, false⟩), (3, some ⟨27, treeK u, true, false⟩)]⟩) (fun x => t.kids.length - x.1) ⟨0, by simp⟩ [] (by simp (maxSteps := 9999999) (implicitDefEqProofs := false) only [go_sem]; simp) (fun ⟨k, hk, hall⟩ => ?_)
    have h5 := t.wt_kids
    by_cases hlt : k < t.kids.length
    · obtain ⟨x, hx⟩ : ∃ x, t.kids[k]? = some x := ⟨_, List.getElem?_eq_getElem hlt⟩
      obtain ⟨y, hy⟩ : ∃ y, u.kids[k]? = some y := ⟨_, List.getElem?_eq_getElem (by omega)⟩
      have hb : decide ((k : Int) < (t.kids.length : Int)) = true := by simpa using hlt
      have hm := List.mem_of_getElem? hx
      (repeat' (first | with_reducible (first | refine zA fun Kn hK => ?_ | refine zB (by kernel_rfl) ?_ | refine Nx.go ?_ | go_step) | (refine ⟨_, ih x hm y _ _ rfl rfl (by have := Tree.wt_kid hm; omega), ?_⟩) | with_reducible (first | refine zI ?_ | refine zJ ?_ | refine zK ?_ ?_ | refine zL ?_ ?_ | refine zR (by kernel_rfl) ?_) | simp (maxSteps := 9999999) (disch := omega) only [wq] | (with_reducible refine zM (fun hb => ?_) (fun hb => ?_) <;> (try simp only [hb])) | (with_reducible refine And.intro (by first | omega | (simp; done) | (simp; omega)) ?_) | simp (maxSteps := 9999999) (implicitDefEqProofs := false) only [go_sem, hb, flat_at treeC_len hx, flat_at treeC_len hy] | fail))
      · refine ⟨[], ⟨k + 1, hlt, ?_⟩, ?_⟩
        · rw [List.take_add_one, List.take_add_one, hx, hy, hall, same_of hb]
        · (iterate 2 ((try simp (maxSteps := 9999999) (implicitDefEqProofs := false) only [go_sem, true_and, or_false]); (try simp (maxSteps := 9999999) (disch := omega) only [wq])))
          (simp only [ijq, true_and, and_true]; first | done | omega | (split <;> omega) | (simp; done) | (simp; omega))
      · rw [same_f]
        rintro rfl
        rw [hx] at hy
        injection hy with hy
        rw [same_t hy] at hb
        cases hb
    · have hb : decide ((k : Int) < (t.kids.length : Int)) = false := by simpa using hlt
      obtain rfl : k = t.kids.length := by omega
      (repeat' (first | with_reducible (first | refine zA fun Kn hK => ?_ | refine zB (by kernel_rfl) ?_ | refine Nx.go ?_ | go_step) | fail | with_reducible (first | refine zI ?_ | refine zJ ?_ | refine zK ?_ ?_ | refine zL ?_ ?_ | refine zR (by kernel_rfl) ?_) | simp (maxSteps := 9999999) (disch := omega) only [wq] | (with_reducible refine zM (fun hb => ?_) (fun hb => ?_) <;> (try simp only [hb])) | (with_reducible refine And.intro (by first | omega | (simp; done) | (simp; omega)) ?_) | simp (maxSteps := 9999999) (implicitDefEqProofs := false) only [go_sem, hb] | fail))
      rw [List.take_length, hf.2.2.2.2, List.take_length] at hall
      rw [same_t (Tree.ext_iff.2 ⟨hf.1, hf.2.1, hf.2.2.1, hf.2.2.2.1, hall⟩)]
  clear hK
  (repeat' (first | with_reducible (first | refine zA fun Kn hK => ?_ | refine zB (by kernel_rfl) ?_ | refine Nx.go ?_ | go_step) | (refine hL (by refine ⟨?_, ?_, ?_, ?_, ?_⟩ <;> first | (simp_all; done) | (simp_all; omega)) _ ?_) | with_reducible (first | refine zI ?_ | refine zJ ?_ | refine zK ?_ ?_ | refine zL ?_ ?_ | refine zR (by kernel_rfl) ?_) | simp (maxSteps := 9999999) (disch := omega) only [wq] | (with_reducible refine zM (fun hb => ?_) (fun hb => ?_) <;> (try simp only [hb])) | (with_reducible refine And.intro (by first | omega | (simp; done) | (simp; omega)) ?_) | simp (maxSteps := 9999999) (implicitDefEqProofs := false) only [go_sem, true_and] | fail))
  all_goals first | (simp; done) | (rw [same_f]; rintro rfl; simp at hb)
end Go.Proofs.YtbeghpkkpnbkgaaGreatDoor
/- The program: two values the same. -/
namespace Go.Proofs.YtbeghpkkpnbkgaaGreatDoor
open Go.RowKit
noncomputable def sameL (l m : List Tree) : Bool := @decide (l = m) (Classical.propDecidable _)
theorem sameL_t {l m : List Tree} (h : l = m) : sameL l m = true := by
  unfold sameL
  exact @decide_eq_true _ (Classical.propDecidable _) h
theorem sameL_f {l m : List Tree} (h : l ≠ m) : sameL l m = false := by
  unfold sameL
  exact @decide_eq_false _ (Classical.propDecidable _) h
theorem eqfunc_m {G : Nat → Option (List D)} (l m : List Tree) (hl : l.length ≤ 100000000)
    (ih : ∀ x ∈ l, ∀ (u : Tree) (cs ds : List D), treeC x = cs → treeC u = ds → Spec Tryz.prog G 73 [.g cs, .g ds] (.one (.c (.v (.bool (x.same u)))))) :
    Spec Tryz.prog G 82 [.c (.sl l.length (l.flatMap treeC)), .c (.sl m.length (m.flatMap treeC)), .c (.v (.func (.func 73) #[] #[]))] (.one (.c (.v (.bool (sameL l m))))) := by
  refine spec_of Tryz.func82 rfl rfl rfl (by kernel_rfl) rfl fun K => ?_
  by_cases hn : l.length = m.length
  · have d1 : ((l.length : Int) == (m.length : Int)) = true := by simp [hn]
    (repeat' (first | with_reducible (first | refine zA fun Kn hK => ?_ | refine zB (by kernel_rfl) ?_ | refine Nx.go ?_ | go_step) | fail | with_reducible (first | refine zI ?_ | refine zJ ?_ | refine zK ?_ ?_ | refine zL ?_ ?_ | refine zR (by kernel_rfl) ?_) | simp (maxSteps := 9999999) (disch := omega) only [wq] | (with_reducible refine zM (fun hb => ?_) (fun hb => ?_) <;> (try simp only [hb])) | (with_reducible refine And.intro (by first | omega | (simp; done) | (simp; omega)) ?_) | simp (maxSteps := 9999999) (implicitDefEqProofs := false) only [go_sem, d1] | fail))
    refine sound_loopR (fun x : {k : Nat // k ≤ l.length ∧ l.take k = m.take k} => ⟨[(1, vD (.sl m.length (m.flatMap treeC))), (2, vD (.v (.func (.func 73) #[] #[]))), (15, vD (.sl l.length (l.flatMap treeC))), (16, vI l.length), (17, vI x.1)], []⟩) (fun x => l.length - x.1) ⟨0, by simp⟩ [] (by (iterate 2 ((try simp (maxSteps := 9999999) (implicitDefEqProofs := false) only [go_sem, true_and]); (try simp (maxSteps := 9999999) (disch := omega) only [wq]))); try simp) (fun ⟨k, hk, hall⟩ => ?_)
    by_cases hlt : k < l.length
    · obtain ⟨x, hx⟩ : ∃ x, l[k]? = some x := ⟨_, List.getElem?_eq_getElem hlt⟩
      obtain ⟨y, hy⟩ : ∃ y, m[k]? = some y := ⟨_, List.getElem?_eq_getElem (by omega)⟩
      have hb : decide ((k : Int) < (l.length : Int)) = true := by simpa using hlt
      have hlm : k < m.length := by omega
      (repeat' (first | with_reducible (first | refine zA fun Kn hK => ?_ | refine zB (by kernel_rfl) ?_ | refine Nx.go ?_ | go_step) | (refine ⟨_, ih x (List.mem_of_getElem? hx) y _ _ rfl rfl, ?_⟩) | with_reducible (first | refine zI ?_ | refine zJ ?_ | refine zK ?_ ?_ | refine zL ?_ ?_ | refine zR (by kernel_rfl) ?_) | simp (maxSteps := 9999999) (disch := omega) only [wq] | (with_reducible refine zM (fun hb => ?_) (fun hb => ?_) <;> (try simp only [hb])) | (with_reducible refine And.intro (by first | omega | (simp; done) | (simp; omega)) ?_) | simp (maxSteps := 9999999) (implicitDefEqProofs := false) only [go_sem, hb, flat_at treeC_len hx, flat_at treeC_len hy, List.length_map] | fail))
      · refine ⟨[], ⟨k + 1, hlt, ?_⟩, ?_⟩
        · rw [List.take_add_one, List.take_add_one, hx, hy, hall, same_of hb]
        · (iterate 2 ((try simp (maxSteps := 9999999) (implicitDefEqProofs := false) only [go_sem, true_and]); (try simp (maxSteps := 9999999) (disch := omega) only [wq])))
          try (simp only [ijq, true_and, and_true]; first | done | omega | (split <;> omega) | (simp; done) | (simp; omega))
      · rw [sameL_f]
        rintro rfl
        rw [hx] at hy
        injection hy with hy
        rw [same_t hy] at hb
        cases hb
    · have hb : decide ((k : Int) < (l.length : Int)) = false := by simpa using hlt
      obtain rfl : k = l.length := by omega
      rw [List.take_length, hn, List.take_length] at hall
      (repeat' (first | with_reducible (first | refine zA fun Kn hK => ?_ | refine zB (by kernel_rfl) ?_ | refine Nx.go ?_ | go_step) | fail | with_reducible (first | refine zI ?_ | refine zJ ?_ | refine zK ?_ ?_ | refine zL ?_ ?_ | refine zR (by kernel_rfl) ?_) | simp (maxSteps := 9999999) (disch := omega) only [wq] | (with_reducible refine zM (fun hb => ?_) (fun hb => ?_) <;> (try simp only [hb])) | (with_reducible refine And.intro (by first | omega | (simp; done) | (simp; omega)) ?_) | simp (maxSteps := 9999999) (implicitDefEqProofs := false) only [go_sem, hb] | fail))
      rw [sameL_t hall]
  · have d1 : ((l.length : Int) == (m.length : Int)) = false := by
      rw [beq_eq_false_iff_ne]
      omega
    (repeat' (first | with_reducible (first | refine zA fun Kn hK => ?_ | refine zB (by kernel_rfl) ?_ | refine Nx.go ?_ | go_step) | fail | with_reducible (first | refine zI ?_ | refine zJ ?_ | refine zK ?_ ?_ | refine zL ?_ ?_ | refine zR (by kernel_rfl) ?_) | simp (maxSteps := 9999999) (disch := omega) only [wq] | (with_reducible refine zM (fun hb => ?_) (fun hb => ?_) <;> (try simp only [hb])) | (with_reducible refine And.intro (by first | omega | (simp; done) | (simp; omega)) ?_) | simp (maxSteps := 9999999) (implicitDefEqProofs := false) only [go_sem, d1] | fail))
    rw [sameL_f]
    rintro rfl
    exact hn rfl
theorem same_m {G : Nat → Option (List D)} : ∀ (t u : Tree) (cs ds : List D), treeC t = cs → treeC u = ds → t.wt ≤ 10000000 → Spec Tryz.prog G 73 [.g cs, .g ds] (.one (.c (.v (.bool (t.same u))))) := Tree.ind fun t ih u cs ds hcs hds hw => by
  subst hcs hds
  refine spec_of Tryz.func73 rfl rfl rfl (by kernel_rfl) rfl fun K => ?_
  rw [treeC_eq t, treeC_eq u]
  have hlk := t.wt_kids
  have he : t.same u = (t.list == u.list && t.hinted == u.hinted && t.hint == u.hint && t.data == u.data && sameL t.kids u.kids) := by
    rw [Bool.eq_iff_iff]
    simp only [Bool.and_eq_true, beq_iff_eq]
    refine ⟨fun h => ?_, fun ⟨⟨⟨⟨h1, h2⟩, h3⟩, h4⟩, h5⟩ => ?_⟩
    · cases same_of h
      exact ⟨⟨⟨⟨rfl, rfl⟩, rfl⟩, rfl⟩, sameL_t rfl⟩
    · refine same_t (Tree.ext_iff.2 ⟨h1, h2, h3, h4, ?_⟩)
      refine Classical.byContradiction fun hn => ?_
      rw [sameL_f hn] at h5
      cases h5
  (repeat' (first | with_reducible (first | refine zA fun Kn hK => ?_ | refine zB (by kernel_rfl) ?_ | refine Nx.go ?_ | go_step) | (refine ⟨_, equal_m t.hint u.hint, ?_⟩) | (refine ⟨_, equal_m t.data u.data, ?_⟩) | (refine ⟨_, eqfunc_m t.kids u.kids (by omega) (fun x hx v cs ds h1 h2 => ih x hx v cs ds h1 h2 (by have := Tree.wt_kid hx; omega)), ?_⟩) | with_reducible (first | refine zI ?_ | refine zJ ?_ | refine zK ?_ ?_ | refine zL ?_ ?_ | refine zR (by kernel_rfl) ?_) | simp (maxSteps := 9999999) (disch := omega) only [wq] | (with_reducible refine zM (fun hb => ?_) (fun hb => ?_) <;> (try simp only [hb])) | (with_reducible refine And.intro (by first | omega | (simp; done) | (simp; omega)) ?_) | simp (maxSteps := 9999999) (implicitDefEqProofs := false) only [go_sem, true_and] | fail))
  all_goals (rw [he]; simp only [*]; rfl)
end Go.Proofs.YtbeghpkkpnbkgaaGreatDoor
/- What the program's count of a value's parts and bytes comes to. -/
namespace Go.Proofs.YtbeghpkkpnbkgaaGreatDoor
/-- Does the count let a value by? -/
def okT (t : Tree) (n d : Nat) : Bool := t.clean && decide (n + t.nodes ≤ 512) && decide (t.deep + d ≤ 17)
theorem Tree.nodes_pos (t : Tree) : 1 ≤ t.nodes := by rw [Tree.nodes_eq]; omega
theorem okT_many {t : Tree} {n d : Nat} (h : 512 < n + 1) : okT t n d = false := by
  have := t.nodes_pos
  simp [okT]
  intro _ _
  omega
theorem okT_unfair {t : Tree} {n d : Nat} (h : t.fair = false) : okT t n d = false := by simp [okT, Tree.clean_eq, h]
theorem okT_atom {t : Tree} {n d : Nat} (hl : t.list = false) (hf : t.fair = true) (hk : t.kids = []) (hn : n + 1 ≤ 512) (hd : d ≤ 17) : okT t n d = true := by
  have h1 : t.nodes = 1 := by rw [Tree.nodes_eq, hk]; rfl
  have h2 : t.deep = 0 := by rw [Tree.deep_eq, hl]; rfl
  simp [okT, Tree.clean_eq, hf, hk, h1, h2]
  omega
theorem okT_deep {t : Tree} {n d : Nat} (hl : t.list = true) (h : 16 < d) : okT t n d = false := by
  have h1 : 1 ≤ t.deep := by rw [Tree.deep_eq, hl]; simp
  simp [okT]
  intro _ _
  omega
/-- What the count knows behind k of a list's values. -/
def CInv (t : Tree) (n d k : Nat) : Prop :=
  (t.kids.take k).all Tree.clean = true ∧ n + 1 + ((t.kids.take k).map Tree.nodes).sum ≤ 512 ∧ ∀ x ∈ t.kids.take k, x.deep + (d + 1) ≤ 17
theorem CInv.zero {t : Tree} {n d : Nat} (h : n + 1 ≤ 512) : CInv t n d 0 := ⟨by simp, by simpa using h, by simp⟩
theorem okT_parts {x : Tree} {m d : Nat} (h : okT x m d = true) : x.clean = true ∧ m + x.nodes ≤ 512 ∧ x.deep + d ≤ 17 := by
  simp [okT] at h
  exact ⟨h.1.1, h.1.2, h.2⟩
theorem CInv.step {t x : Tree} {n d k : Nat} (h : CInv t n d k) (hx : t.kids[k]? = some x) (ho : okT x (n + 1 + ((t.kids.take k).map Tree.nodes).sum) (d + 1) = true) : CInv t n d (k + 1) := by
  obtain ⟨h1, h2, h3⟩ := h
  obtain ⟨o1, o2, o3⟩ := okT_parts ho
  refine ⟨by rw [List.take_add_one, hx, Option.toList_some, List.all_append, List.all_cons, List.all_nil, Bool.and_true, h1, o1]; rfl, by rw [sum_at Tree.nodes hx]; omega, fun y hy => ?_⟩
  rw [List.take_add_one, hx] at hy
  simp only [Option.toList_some, List.mem_append, List.mem_singleton] at hy
  rcases hy with hy | rfl
  · exact h3 y hy
  · exact o3
theorem CInv.done {t : Tree} {n d k : Nat} (h : CInv t n d k) (hk : t.kids.length ≤ k) (hl : t.list = true) (hf : t.fair = true) (hd : d ≤ 16) : okT t n d = true := by
  obtain ⟨h1, h2, h3⟩ := h
  rw [List.take_of_length_le hk] at h1 h2 h3
  have e1 : t.clean = true := by rw [Tree.clean_eq, hf, h1]; rfl
  have e2 : n + t.nodes ≤ 512 := by rw [Tree.nodes_eq]; omega
  have e3 : t.deep + d ≤ 17 := by
    have : most (t.kids.map Tree.deep) ≤ 16 - d := most_le.2 fun m hm => by
      obtain ⟨x, hx, rfl⟩ := List.mem_map.1 hm
      have := h3 x hx
      omega
    rw [Tree.deep_eq, hl]
    simp only [if_true]
    omega
  simp [okT, e1, e2, e3]
theorem okT_kid {t x : Tree} {n d k : Nat} (hl : t.list = true) (hx : t.kids[k]? = some x) (ho : okT x (n + 1 + ((t.kids.take k).map Tree.nodes).sum) (d + 1) = false) : okT t n d = false := by
  cases hq : okT t n d with
  | false => rfl
  | true =>
    obtain ⟨o1, o2, o3⟩ := okT_parts hq
    have hm := List.mem_of_getElem? hx
    have e1 : x.clean = true := by
      rw [Tree.clean_eq, Bool.and_eq_true, List.all_eq_true] at o1
      exact o1.2 x hm
    have e2 : n + 1 + ((t.kids.take k).map Tree.nodes).sum + x.nodes ≤ 512 := by
      rw [Tree.nodes_eq] at o2
      have := sum_upto (l := t.kids) (k := k + 1) Tree.nodes
      rw [sum_at Tree.nodes hx] at this
      omega
    have e3 : x.deep + (d + 1) ≤ 17 := by
      rw [Tree.deep_eq, hl] at o3
      simp only [if_true] at o3
      have : x.deep ≤ most (t.kids.map Tree.deep) := most_le.1 (Nat.le_refl _) _ (List.mem_map.2 ⟨x, hm, rfl⟩)
      omega
    rw [okT, e1, decide_eq_true e2, decide_eq_true e3] at ho
    cases ho
theorem form_list {t : Tree} (hl : t.list = true) : t.form.length = 2 + (t.kids.map Tree.form).flatten.length := by
  rw [Tree.form_eq, hl]
  simp only [if_true, List.length_append, List.length_singleton]
  omega
theorem form_atom {t : Tree} (hl : t.list = false) : t.form.length = (if t.hinted then 2 + (textB t.hint).length else 0) + (textB t.data).length := by
  rw [Tree.form_eq, hl, Tree.atomF]
  simp only [Bool.false_eq_true, if_false, List.length_append]
  split <;> simp only [List.length_append, List.length_singleton, List.length_nil] <;> omega
/-- The count's steps. -/
def rightF (t : Tree) (n s d : Nat) : Bool × Nat × Nat :=
  if 512 < n + 1 then (false, n + 1, s)
  else if t.list then
    if (decide (16 < d) || t.hinted || decide (0 < t.hint.length + t.data.length)) then (false, n + 1, s)
    else t.kids.attach.foldl (fun st x => if st.1 then rightF x.1 st.2.1 st.2.2 (d + 1) else st) (true, n + 1, s + 2)
  else (t.kids.length == 0 && (t.hinted || t.hint.length == 0), n + 1, s + (if t.hinted then 2 + (textB t.hint).length else 0) + (textB t.data).length)
termination_by SizeOf.sizeOf t
decreasing_by exact Tree.kid_lt x.2
def rightK (d : Nat) (st : Bool × Nat × Nat) (x : Tree) : Bool × Nat × Nat := if st.1 then rightF x st.2.1 st.2.2 (d + 1) else st
theorem rightF_eq (t : Tree) (n s d : Nat) : rightF t n s d = if 512 < n + 1 then (false, n + 1, s)
  else if t.list then
    if (decide (16 < d) || t.hinted || decide (0 < t.hint.length + t.data.length)) then (false, n + 1, s)
    else t.kids.foldl (rightK d) (true, n + 1, s + 2)
  else (t.kids.length == 0 && (t.hinted || t.hint.length == 0), n + 1, s + (if t.hinted then 2 + (textB t.hint).length else 0) + (textB t.data).length) := by
  rw [rightF]
  have : t.kids.attach.foldl (fun st x => if st.1 then rightF x.1 st.2.1 st.2.2 (d + 1) else st) (true, n + 1, s + 2) = t.kids.foldl (rightK d) (true, n + 1, s + 2) := by
    conv => rhs; rw [← List.attach_map_subtype_val t.kids, List.foldl_map]
    rfl
  rw [this]
theorem foldl_at {α β : Type} {f : β → α → β} {l : List α} {k : Nat} {x : α} {b : β} (h : l[k]? = some x) : (l.take (k + 1)).foldl f b = f ((l.take k).foldl f b) x := by
  rw [List.take_add_one, h]
  simp
/-- What is told of the count. -/
structure RightOk (t : Tree) (n s d : Nat) : Prop where
  cn : (rightF t n s d).2.1 ≤ 513
  cs : (rightF t n s d).2.2 ≤ s + t.form.length
  ok : (rightF t n s d).1 = okT t n d
  yes : (rightF t n s d).1 = true → (rightF t n s d).2.1 = n + t.nodes ∧ (rightF t n s d).2.2 = s + t.form.length
theorem fair_list {t : Tree} {d : Nat} (hl : t.list = true) : (decide (16 < d) || t.hinted || decide (0 < t.hint.length + t.data.length)) = (decide (16 < d) || !t.fair) := by
  unfold Tree.fair
  rw [hl]
  simp only [if_true]
  rw [Bool.eq_iff_iff]
  have h9 : (0 < t.hint.length + t.data.length) ↔ ¬ (t.hint.length = 0 ∧ t.data.length = 0) := by omega
  cases t.hinted <;> simp only [h9] <;> by_cases h16 : 16 < d <;> by_cases ha : t.hint.length = 0 <;> by_cases hb : t.data.length = 0 <;> simp [h16, ha, hb]
theorem rightF_kids {t : Tree} {n s d : Nat} (hl : t.list = true) (hn : n + 1 ≤ 512) (hd : d ≤ 16) (ih : ∀ x ∈ t.kids, ∀ n s d, n ≤ 512 → d ≤ 17 → RightOk x n s d) : ∀ k, k ≤ t.kids.length →
    let st := (t.kids.take k).foldl (rightK d) (true, n + 1, s + 2)
    st.2.1 ≤ 513 ∧ st.2.2 ≤ s + 2 + ((t.kids.take k).map fun x => x.form.length).sum ∧ (st.1 = true → CInv t n d k ∧ st.2.1 = n + 1 + ((t.kids.take k).map Tree.nodes).sum ∧ st.2.2 = s + 2 + ((t.kids.take k).map fun x => x.form.length).sum) ∧ (st.1 = false → okT t n d = false)
  | 0, _ => by
    refine ⟨by simp; omega, by simp, fun _ => ⟨CInv.zero hn, by simp, by simp⟩, fun h => by cases h⟩
  | k + 1, hk => by
    obtain ⟨x, hx⟩ : ∃ x, t.kids[k]? = some x := ⟨_, List.getElem?_eq_getElem hk⟩
    have h := rightF_kids (n := n) (s := s) (d := d) hl hn hd ih k (by omega)
    intro st
    have hst : st = rightK d ((t.kids.take k).foldl (rightK d) (true, n + 1, s + 2)) x := foldl_at hx
    have hs := sum_at (fun x : Tree => x.form.length) hx
    have hs2 := sum_at Tree.nodes hx
    generalize (t.kids.take k).foldl (rightK d) (true, n + 1, s + 2) = st0 at h hst
    obtain ⟨h1, h2, h3, h4⟩ := h
    rw [hst]
    unfold rightK
    split
    · rename_i hb
      obtain ⟨c1, c2, c3⟩ := h3 hb
      have hr := ih x (List.mem_of_getElem? hx) st0.2.1 st0.2.2 (d + 1) (by rw [c2]; exact c1.2.1) (by omega)
      refine ⟨hr.cn, ?_, fun hy => ?_, fun hf => ?_⟩
      · rw [hs]
        have := hr.cs
        omega
      · obtain ⟨y1, y2⟩ := hr.yes hy
        refine ⟨c1.step hx ?_, by rw [y1, hs2]; omega, by rw [y2, hs]; omega⟩
        rw [← c2, ← hr.ok]
        exact hy
      · refine okT_kid hl hx ?_
        rw [← c2, ← hr.ok]
        exact hf
    · rename_i hb
      refine ⟨h1, ?_, fun hy => absurd hy hb, fun _ => h4 (by simpa using hb)⟩
      show st0.2.2 ≤ _
      rw [hs]
      omega
theorem form_sum {t : Tree} (hl : t.list = true) : t.form.length = 2 + (t.kids.map fun x => x.form.length).sum := by
  rw [form_list hl, List.length_flatten, List.map_map]
  rfl
theorem right_ok : ∀ (t : Tree) (n s d : Nat), n ≤ 512 → d ≤ 17 → RightOk t n s d := Tree.ind fun t ih n s d hn hd => by
  have he := rightF_eq t n s d
  by_cases h1 : 512 < n + 1
  · rw [if_pos h1] at he
    exact ⟨by rw [he]; show n + 1 ≤ 513; omega, by rw [he]; exact Nat.le_add_right _ _, by rw [he, okT_many h1], fun h => by rw [he] at h; cases h⟩
  rw [if_neg h1] at he
  cases hl : t.list with
  | true =>
    rw [hl, if_pos rfl, fair_list hl] at he
    by_cases h2 : (decide (16 < d) || !t.fair) = true
    · rw [if_pos h2] at he
      refine ⟨by rw [he]; show n + 1 ≤ 513; omega, by rw [he]; exact Nat.le_add_right _ _, ?_, fun h => by rw [he] at h; cases h⟩
      rw [he]
      simp only [Bool.or_eq_true, decide_eq_true_eq, Bool.not_eq_true'] at h2
      rcases h2 with h2 | h2
      · rw [okT_deep hl h2]
      · rw [okT_unfair h2]
    · rw [if_neg h2] at he
      simp only [Bool.or_eq_true, decide_eq_true_eq, Bool.not_eq_true', not_or, Bool.not_eq_false] at h2
      have hk := rightF_kids (n := n) (s := s) (d := d) hl (by omega) (by omega) ih t.kids.length (Nat.le_refl _)
      simp only [List.take_length] at hk
      rw [← he] at hk
      obtain ⟨k1, k2, k3, k4⟩ := hk
      have hf := form_sum hl
      refine ⟨k1, by omega, ?_, fun hy => ?_⟩
      · cases hb : (rightF t n s d).1 with
        | false => rw [k4 hb]
        | true => rw [(k3 hb).1.done (Nat.le_refl _) hl h2.2 (by omega)]
      · obtain ⟨c1, c2, c3⟩ := k3 hy
        exact ⟨by rw [c2, Tree.nodes_eq]; omega, by rw [c3, hf]; omega⟩
  | false =>
    rw [hl, if_neg (by simp)] at he
    have hf := form_atom hl
    have hfair : t.fair = (t.kids.length == 0 && (t.hinted || t.hint.length == 0)) := by rw [Tree.fair, hl]; rfl
    rw [← hfair] at he
    refine ⟨by rw [he]; show n + 1 ≤ 513; omega, by rw [he]; show s + _ + _ ≤ _; omega, ?_, fun hy => ?_⟩
    · rw [he]
      show t.fair = _
      cases hb : t.fair with
      | false => rw [okT_unfair hb]
      | true =>
        have hb2 := hb
        rw [hfair, Bool.and_eq_true] at hb2
        rw [okT_atom hl hb (List.eq_nil_of_length_eq_zero (by simpa using hb2.1)) (by omega) hd]
    · rw [he] at hy
      have hy : t.fair = true := hy
      rw [hfair, Bool.and_eq_true] at hy
      have hk : t.kids = [] := List.eq_nil_of_length_eq_zero (by simpa using hy.1)
      rw [he]
      exact ⟨by rw [Tree.nodes_eq, hk]; rfl, by show s + _ + _ = _; omega⟩
theorem may_okT (t : Tree) : t.may = (okT t 0 1 && decide (t.form.length ≤ 4096)) := by
  rw [Tree.may, okT, Nat.zero_add]
  congr 2
  rw [decide_eq_decide]
  omega
theorem rightK_stop {d : Nat} : ∀ (l : List Tree) (st : Bool × Nat × Nat), st.1 = false → l.foldl (rightK d) st = st
  | [], _, _ => rfl
  | x :: l, st, h => by
    have : rightK d st x = st := by simp [rightK, h]
    rw [List.foldl_cons, this, rightK_stop l st h]
theorem rightK_end {d k : Nat} {l : List Tree} {st0 : Bool × Nat × Nat} (h : ((l.take k).foldl (rightK d) st0).1 = false) : l.foldl (rightK d) st0 = (l.take k).foldl (rightK d) st0 := by
  conv => lhs; rw [← List.take_append_drop k l, List.foldl_append]
  exact rightK_stop _ _ h
end Go.Proofs.YtbeghpkkpnbkgaaGreatDoor
/- The program's telling whether a value may be. -/
namespace Go.Proofs.YtbeghpkkpnbkgaaGreatDoor
open Go.RowKit
@[go_sem] def cntO (n s : Int) : AObj := ⟨70, [.d (.v (.int .i64 n)), .d (.v (.int .i64 s))], true, false⟩
theorem cbytes_m {G : Nat → Option (List D)} (hG : G 2 = some powD) (b : List UInt8) (n s : Int) (hb : b.length ≤ 10000000) (h0 : 0 ≤ s) (hs : s ≤ 1000000000000) :
    SpecO Tryz.prog G 72 [.c (.ptr 0 0), .c (.d (bytesD b))] [(0, cntO n s)] (.ret (.tup []) [(0, some (cntO n (s + (textB b).length)))]) := by
  have hl := textB_len (b := b) (n := 10000000) hb (by omega)
  have he : (textB b).length = (dec b.length).length + 1 + b.length := by simp [textB]; omega
  refine specO_go Tryz.func72 rfl rfl rfl (by kernel_rfl) (by (iterate 2 ((try simp (maxSteps := 9999999) (implicitDefEqProofs := false) only [go_sem, true_and]); (try simp (maxSteps := 9999999) (disch := omega) only [wq])))) (by (iterate 2 ((try simp (maxSteps := 9999999) (implicitDefEqProofs := false) only [go_sem, List.all_cons, List.all_nil]); (try simp (maxSteps := 9999999) (disch := omega) only [wq])))) fun K m => ?_
  (repeat' (first | with_reducible (first | refine zA fun Kn hK => ?_ | refine zB (by kernel_rfl) ?_ | refine Nx.go ?_ | go_step) | (refine ⟨_, putlen_m hG b.length (by omega), ?_⟩) | refine raw_f ?_ | with_reducible (first | refine zI ?_ | refine zJ ?_ | refine zK ?_ ?_ | refine zL ?_ ?_ | refine zR (by kernel_rfl) ?_) | simp (maxSteps := 9999999) (disch := omega) only [wq] | (with_reducible refine zM (fun hb => ?_) (fun hb => ?_) <;> (try simp only [hb])) | (with_reducible refine And.intro (by first | omega | (simp; done) | (simp; omega)) ?_) | simp (maxSteps := 9999999) (implicitDefEqProofs := false) only [go_sem, str_size] | fail))
  (simp only [Option.some.injEq, AObj.mk.injEq, List.cons.injEq, SV.a.injEq, AV.c.injEq, C.d.injEq, D.v.injEq, Value.int.injEq, true_and, and_true]; first | done | omega | (simp; done) | (simp; omega))
theorem right_m {G : Nat → Option (List D)} (hG : G 2 = some powD) : ∀ (t : Tree) (cs : List D) (n s d : Nat), treeC t = cs → t.wt ≤ 10000000 → n ≤ 512 → d ≤ 17 → s + t.form.length ≤ 1000000000 →
    SpecO Tryz.prog G 51 [.c (.ptr 0 0), (DV.g cs).av, .c (.d (.v (.int .i64 d)))] [(0, cntO n s)] (.ret (vB (rightF t n s d).1) [(0, some (cntO (rightF t n s d).2.1 (rightF t n s d).2.2))]) := Tree.ind fun t ih cs n s d hcs hw hn hd hs => by
  subst hcs
  rw [treeC_eq]
  refine specO_go Tryz.func51 rfl rfl rfl (by kernel_rfl) (by (iterate 2 ((try simp (maxSteps := 9999999) (implicitDefEqProofs := false) only [go_sem, true_and]); (try simp (maxSteps := 9999999) (disch := omega) only [wq])))) (by (iterate 2 ((try simp (maxSteps := 9999999) (implicitDefEqProofs := false) only [go_sem, List.all_cons, List.all_nil]); (try simp (maxSteps := 9999999) (disch := omega) only [wq])))) fun K m => ?_
  have hlh := t.wt_hint
  have hld := t.wt_data
  have hlk := t.wt_kids
  have hth := textB_len (b := t.hint) (n := 10000000) (by omega) (by omega)
  have he := rightF_eq t n s d
  by_cases h1 : 512 < n + 1
  · rw [if_pos h1] at he
    rw [he]
    have d1 : decide ((512 : Int) < (n : Int) + 1) = true := decide_eq_true (by omega)
    (repeat' (first | with_reducible (first | refine zA fun Kn hK => ?_ | refine zB (by kernel_rfl) ?_ | refine Nx.go ?_ | go_step) | refine raw_f ?_ | with_reducible (first | refine zI ?_ | refine zJ ?_ | refine zK ?_ ?_ | refine zL ?_ ?_ | refine zR (by kernel_rfl) ?_) | simp (maxSteps := 9999999) (disch := omega) only [wq] | (with_reducible refine zM (fun hb => ?_) (fun hb => ?_) <;> (try simp only [hb])) | (with_reducible refine And.intro (by first | omega | (simp; done) | (simp; omega)) ?_) | simp (maxSteps := 9999999) (implicitDefEqProofs := false) only [go_sem, d1, gt_iff_lt] | fail))
    (simp only [Option.some.injEq, AObj.mk.injEq, List.cons.injEq, SV.a.injEq, AV.c.injEq, C.d.injEq, D.v.injEq, Value.int.injEq, true_and, and_true]; first | done | omega | (simp; done) | (simp; omega))
  have d1 : decide ((512 : Int) < (n : Int) + 1) = false := decide_eq_false (by omega)
  rw [if_neg h1] at he
  cases hl : t.list with
  | false =>
    rw [hl, if_neg (by simp)] at he
    rw [he]
    have hf := form_atom hl
    cases hh : t.hinted with
    | false =>
      rw [hh] at hf
      (repeat' (first | with_reducible (first | refine zA fun Kn hK => ?_ | refine zB (by kernel_rfl) ?_ | refine Nx.go ?_ | go_step) | (refine ⟨some [0], ?_⟩) | (refine ⟨_, cbytes_m hG t.data _ _ (by omega) (by omega) (by omega), ?_⟩) | refine raw_f ?_ | with_reducible (first | refine zI ?_ | refine zJ ?_ | refine zK ?_ ?_ | refine zL ?_ ?_ | refine zR (by kernel_rfl) ?_) | simp (maxSteps := 9999999) (disch := omega) only [wq] | (with_reducible refine zM (fun hb => ?_) (fun hb => ?_) <;> (try simp only [hb])) | (with_reducible refine And.intro (by first | omega | (simp; done) | (simp; omega)) ?_) | simp (maxSteps := 9999999) (implicitDefEqProofs := false) only [go_sem, d1, hl, hh, gt_iff_lt, int_beq0] | fail))
      all_goals first | (simp only [Option.some.injEq, AObj.mk.injEq, List.cons.injEq, SV.a.injEq, AV.c.injEq, C.d.injEq, D.v.injEq, Value.int.injEq, true_and, and_true]; first | done | omega | (simp; done) | (simp; omega)) | rfl | (simp only [*]; rfl) | (simp [*]; done)
    | true =>
      rw [hh] at hf
      (repeat' (first | with_reducible (first | refine zA fun Kn hK => ?_ | refine zB (by kernel_rfl) ?_ | refine Nx.go ?_ | go_step) | (refine ⟨some [0], ?_⟩) | (refine ⟨_, cbytes_m hG t.hint _ _ (by omega) (by omega) (by omega), ?_⟩) | (refine ⟨_, cbytes_m hG t.data _ _ (by omega) (by omega) (by omega), ?_⟩) | refine raw_f ?_ | with_reducible (first | refine zI ?_ | refine zJ ?_ | refine zK ?_ ?_ | refine zL ?_ ?_ | refine zR (by kernel_rfl) ?_) | simp (maxSteps := 9999999) (disch := omega) only [wq] | (with_reducible refine zM (fun hb => ?_) (fun hb => ?_) <;> (try simp only [hb])) | (with_reducible refine And.intro (by first | omega | (simp; done) | (simp; omega)) ?_) | simp (maxSteps := 9999999) (implicitDefEqProofs := false) only [go_sem, d1, hl, hh, gt_iff_lt, int_beq0] | fail))
      all_goals first | (simp only [Option.some.injEq, AObj.mk.injEq, List.cons.injEq, SV.a.injEq, AV.c.injEq, C.d.injEq, D.v.injEq, Value.int.injEq, true_and, and_true]; first | done | omega | (simp; done) | (simp; omega)) | rfl | (simp only [*]; rfl) | (simp [*]; done)
  | true =>
    rw [hl, if_pos rfl] at he
    have hfs := form_sum hl
    by_cases h2 : (decide (16 < d) || t.hinted || decide (0 < t.hint.length + t.data.length)) = true
    · rw [if_pos h2] at he
      rw [he]
      have e1 : decide ((16 : Int) < (d : Int)) = decide (16 < d) := by rw [decide_eq_decide]; omega
      have e2 : decide ((0 : Int) < (t.hint.length : Int) + (t.data.length : Int)) = decide (0 < t.hint.length + t.data.length) := by rw [decide_eq_decide]; omega
      refine zA fun Kn hK => ?_
      (repeat' (first | with_reducible (first | refine zA fun Kn hK => ?_ | refine zB (by kernel_rfl) ?_ | refine Nx.go ?_ | go_step) | refine raw_f ?_ | with_reducible (first | refine zI ?_ | refine zJ ?_ | refine zK ?_ ?_ | refine zL ?_ ?_ | refine zR (by kernel_rfl) ?_) | simp (maxSteps := 9999999) (disch := omega) only [wq] | (with_reducible refine zM (fun hb => ?_) (fun hb => ?_) <;> (try simp only [hb])) | (with_reducible refine And.intro (by first | omega | (simp; done) | (simp; omega)) ?_) | simp (maxSteps := 9999999) (implicitDefEqProofs := false) only [go_sem, d1, hl, gt_iff_lt, e1, e2] | fail))
      all_goals first | (simp only [Option.some.injEq, AObj.mk.injEq, List.cons.injEq, SV.a.injEq, AV.c.injEq, C.d.injEq, D.v.injEq, Value.int.injEq, true_and, and_true]; first | done | omega | (simp; done) | (simp; omega)) | rfl | (exfalso; revert h2; simp only [*]; simp; done)
    · rw [if_neg h2] at he
      simp only [Bool.or_eq_true, decide_eq_true_eq, not_or, Bool.not_eq_true] at h2
      obtain ⟨⟨h3, h4⟩, h5⟩ := h2
      have e1 : decide ((16 : Int) < (d : Int)) = false := decide_eq_false (by omega)
      have e2 : decide ((0 : Int) < (t.hint.length : Int) + (t.data.length : Int)) = false := decide_eq_false (by omega)
      have hr := rightF_kids (n := n) (s := s) (d := d) hl (by omega) (by omega) (fun x hx n s d => right_ok x n s d)
      (repeat' (first | with_reducible (first | refine zA fun Kn hK => ?_ | refine zB (by kernel_rfl) ?_ | refine Nx.go ?_ | go_step) | refine raw_f ?_ | with_reducible (first | refine zI ?_ | refine zJ ?_ | refine zK ?_ ?_ | refine zL ?_ ?_ | refine zR (by kernel_rfl) ?_) | simp (maxSteps := 9999999) (disch := omega) only [wq] | (with_reducible refine zM (fun hb => ?_) (fun hb => ?_) <;> (try simp only [hb])) | (with_reducible refine And.intro (by first | omega | (simp; done) | (simp; omega)) ?_) | simp (maxSteps := 9999999) (implicitDefEqProofs := false) only [go_sem, d1, hl, h4, gt_iff_lt, e1, e2] | fail))
      refine sound_loopR (fun x : {k : Nat // k ≤ t.kids.length ∧ ((t.kids.take k).foldl (rightK d) (true, n + 1, s + 2)).1 = true} => ⟨[(0, vP 0 0), (2, vI d), (79, vD (.sl t.kids.length (t.kids.flatMap treeC))), (80, vI t.kids.length), (81, vI x.1)],
        [(0, some (cntO ((t.kids.take x.1).foldl (rightK d) (true, n + 1, s + 2)).2.1 ((t.kids.take x.1).foldl (rightK d) (true, n + 1, s + 2)).2.2))]⟩) (fun x => t.kids.length - x.1) ⟨0, by simp⟩ [] (by (iterate 2 ((try simp (maxSteps := 9999999) (implicitDefEqProofs := false) only [go_sem, hl]); (try simp (maxSteps := 9999999) (disch := omega) only [wq]))); try (simp only [Option.some.injEq, AObj.mk.injEq, List.cons.injEq, SV.a.injEq, AV.c.injEq, C.d.injEq, D.v.injEq, Value.int.injEq, true_and, and_true]; first | done | omega | (simp; done) | (simp; omega))) (fun ⟨k, hk, hall⟩ => ?_)
      obtain ⟨b1, b2, b3, _⟩ := hr k hk
      obtain ⟨b3, b4, b5⟩ := b3 hall
      have b6 := b3.2.1
      have b7 := sum_upto (l := t.kids) (k := k) fun x : Tree => x.form.length
      by_cases hlt : k < t.kids.length
      · obtain ⟨x, hx⟩ : ∃ x, t.kids[k]? = some x := ⟨_, List.getElem?_eq_getElem hlt⟩
        have hb : decide ((k : Int) < (t.kids.length : Int)) = true := by simpa using hlt
        have hm := List.mem_of_getElem? hx
        have b8 := sum_at (fun x : Tree => x.form.length) hx
        have b9 := sum_upto (l := t.kids) (k := k + 1) fun x : Tree => x.form.length
        have hst := foldl_at (f := rightK d) (b := (true, n + 1, s + 2)) hx
        have hend := rightK_end (d := d) (k := k + 1) (l := t.kids) (st0 := (true, n + 1, s + 2))
        rw [hst] at hend
        rw [rightK, if_pos hall] at hst hend
        (repeat' (first | with_reducible (first | refine zA fun Kn hK => ?_ | refine zB (by kernel_rfl) ?_ | refine Nx.go ?_ | go_step) | (refine ⟨some [0], ?_⟩) | (refine ⟨_, ih x hm _ _ _ (d + 1) rfl (by have := Tree.wt_kid hm; omega) (by omega) (by omega) (by omega), ?_⟩) | refine raw_f ?_ | with_reducible (first | refine zI ?_ | refine zJ ?_ | refine zK ?_ ?_ | refine zL ?_ ?_ | refine zR (by kernel_rfl) ?_) | simp (maxSteps := 9999999) (disch := omega) only [wq] | (with_reducible refine zM (fun hb => ?_) (fun hb => ?_) <;> (try simp only [hb])) | (with_reducible refine And.intro (by first | omega | (simp; done) | (simp; omega)) ?_) | simp (maxSteps := 9999999) (implicitDefEqProofs := false) only [go_sem, hb, flat_at treeC_len hx, List.length_map, treeC_len] | fail))
        · refine ⟨[], ⟨k + 1, hlt, by rw [hst]; assumption⟩, ?_⟩
          (iterate 2 ((try simp (maxSteps := 9999999) (implicitDefEqProofs := false) only [go_sem, hst]); (try simp (maxSteps := 9999999) (disch := omega) only [wq])))
          try (simp only [ijq, true_and, and_true]; first | done | omega | (split <;> omega) | (simp; done) | (simp; omega))
        all_goals
          rw [he, hend (by assumption)]
          try rw [hb]
      · have hb : decide ((k : Int) < (t.kids.length : Int)) = false := by simpa using hlt
        obtain rfl : k = t.kids.length := by omega
        rw [List.take_length] at hall
        (repeat' (first | with_reducible (first | refine zA fun Kn hK => ?_ | refine zB (by kernel_rfl) ?_ | refine Nx.go ?_ | go_step) | refine raw_f ?_ | with_reducible (first | refine zI ?_ | refine zJ ?_ | refine zK ?_ ?_ | refine zL ?_ ?_ | refine zR (by kernel_rfl) ?_) | simp (maxSteps := 9999999) (disch := omega) only [wq] | (with_reducible refine zM (fun hb => ?_) (fun hb => ?_) <;> (try simp only [hb])) | (with_reducible refine And.intro (by first | omega | (simp; done) | (simp; omega)) ?_) | simp (maxSteps := 9999999) (implicitDefEqProofs := false) only [go_sem, hb, hall, List.take_length] | fail))
        all_goals (rw [he]; try rw [hall])
theorem sxmay_m {G : Nat → Option (List D)} (hG : G 2 = some powD) (t : Tree) {cs : List D} (hcs : treeC t = cs) (hw : t.wt ≤ 10000000) : Spec Tryz.prog G 33 [.g cs] (.one (.c (.v (.bool t.may)))) := by
  have hf := Tree.form_wt t hw
  have hr := right_ok t 0 0 1 (by omega) (by omega)
  have hm := may_okT t
  have h1 := right_m hG t cs 0 0 1 hcs hw (by omega) (by omega) (by omega)
  subst hcs
  rw [hr.ok] at h1
  have hy := hr.yes
  rw [hr.ok, Nat.zero_add, Nat.zero_add] at hy
  have e1 : okT t 0 1 = true → decide (((rightF t 0 0 1).2.2 : Int) ≤ 4096) = decide (t.form.length ≤ 4096) := fun h => by
    rw [decide_eq_decide, (hy h).2]
    omega
  rw [treeC_eq] at h1 ⊢
  refine spec_of Tryz.func33 rfl rfl rfl (by kernel_rfl) rfl fun K => ?_
  cases hb : okT t 0 1 with
  | true =>
    rw [hb] at h1
    have e1 := e1 hb
    (repeat' (first | with_reducible (first | refine zA fun Kn hK => ?_ | refine zB (by kernel_rfl) ?_ | refine Nx.go ?_ | go_step) | (refine ⟨some [0], ?_⟩) | (refine ⟨_, h1, ?_⟩) | with_reducible (first | refine zI ?_ | refine zJ ?_ | refine zK ?_ ?_ | refine zL ?_ ?_ | refine zR (by kernel_rfl) ?_) | simp (maxSteps := 9999999) (disch := omega) only [wq] | (with_reducible refine zM (fun hb => ?_) (fun hb => ?_) <;> (try simp only [hb])) | (with_reducible refine And.intro (by first | omega | (simp; done) | (simp; omega)) ?_) | simp (maxSteps := 9999999) (implicitDefEqProofs := false) only [go_sem, e1] | fail))
    rw [hm, hb]
    rfl
  | false =>
    rw [hb] at h1
    (repeat' (first | with_reducible (first | refine zA fun Kn hK => ?_ | refine zB (by kernel_rfl) ?_ | refine Nx.go ?_ | go_step) | (refine ⟨some [0], ?_⟩) | (refine ⟨_, h1, ?_⟩) | with_reducible (first | refine zI ?_ | refine zJ ?_ | refine zK ?_ ?_ | refine zL ?_ ?_ | refine zR (by kernel_rfl) ?_) | simp (maxSteps := 9999999) (disch := omega) only [wq] | (with_reducible refine zM (fun hb => ?_) (fun hb => ?_) <;> (try simp only [hb])) | (with_reducible refine And.intro (by first | omega | (simp; done) | (simp; omega)) ?_) | simp (maxSteps := 9999999) (implicitDefEqProofs := false) only [go_sem, true_and] | fail))
    rw [hm, hb]
    rfl
end Go.Proofs.YtbeghpkkpnbkgaaGreatDoor
/- Tags: the program's ranges, right, nodes. -/
namespace Go.Proofs.YtbeghpkkpnbkgaaGreatDoor
open Go.RowKit
section
variable {G : Nat → Option (List D)}
theorem bsame_m (x y : Bd) : Spec Tryz.prog G 58 [.g [.v (.bool x.is), .v (.bool x.opn), bytesD x.txt], .g [.v (.bool y.is), .v (.bool y.opn), bytesD y.txt]] (.one (.c (.v (.bool (bdSame x y))))) := by
  obtain ⟨a, b, c⟩ := x
  obtain ⟨a', b', c'⟩ := y
  have he := equal_m (G := G) c c'
  unfold bdSame
  dsimp only
  generalize (c == c') = q at *
  cases h1 : a == a' <;> cases h2 : b == b' <;> cases q
  all_goals
    refine spec_of Tryz.func58 rfl rfl rfl (by kernel_rfl) rfl fun K => ?_
    (repeat' (first | with_reducible (first | refine zA fun Kn hK => ?_ | refine zB (by kernel_rfl) ?_ | refine Nx.go ?_ | go_step) | (refine ⟨_, he, ?_⟩) | with_reducible (first | refine zI ?_ | refine zJ ?_ | refine zK ?_ ?_ | refine zL ?_ ?_ | refine zR (by kernel_rfl) ?_) | simp (maxSteps := 9999999) (disch := omega) only [wq] | (with_reducible refine zM (fun hb => ?_) (fun hb => ?_) <;> (try simp only [hb])) | (with_reducible refine And.intro (by first | omega | (simp; done) | (simp; omega)) ?_) | simp (maxSteps := 9999999) (implicitDefEqProofs := false) only [go_sem, h1, h2] | fail))
    all_goals try rfl
theorem prsame_m (o : UInt8) (lo hi : Bd) (o' : UInt8) (lo' hi' : Bd) : Spec Tryz.prog G 41 [.g (rgD o lo hi), .g (rgD o' lo' hi')] (.one (.c (.v (.bool (rgSame o lo hi o' lo' hi'))))) := by
  have s1 := bsame_m (G := G) lo lo'
  have s2 := bsame_m (G := G) hi hi'
  have e := u8_beq o o'
  unfold rgSame
  generalize bdSame lo lo' = q1 at *
  generalize bdSame hi hi' = q2 at *
  generalize (o == o') = q0 at *
  unfold rgD bD
  cases q0 <;> cases q1 <;> cases q2
  all_goals
    refine spec_of Tryz.func41 rfl rfl rfl (by kernel_rfl) rfl fun K => ?_
    (repeat' (first | with_reducible (first | refine zA fun Kn hK => ?_ | refine zB (by kernel_rfl) ?_ | refine Nx.go ?_ | go_step) | (refine ⟨_, s1, ?_⟩) | (refine ⟨_, s2, ?_⟩) | with_reducible (first | refine zI ?_ | refine zJ ?_ | refine zK ?_ ?_ | refine zL ?_ ?_ | refine zR (by kernel_rfl) ?_) | simp (maxSteps := 9999999) (disch := omega) only [wq] | (with_reducible refine zM (fun hb => ?_) (fun hb => ?_) <;> (try simp only [hb])) | (with_reducible refine And.intro (by first | omega | (simp; done) | (simp; omega)) ?_) | simp (maxSteps := 9999999) (implicitDefEqProofs := false) only [go_sem, e] | fail))
    all_goals try rfl
theorem pos_len {α : Type} (l : List α) : decide ((0 : Int) < (l.length : Int)) = !emptyL l := by
  cases l with
  | nil => rfl
  | cons a l =>
    rw [show emptyL (a :: l) = false from rfl, Bool.not_false, decide_eq_true_iff, List.length_cons]
    omega
theorem blank_m (t : Tg) {cs : List D} (hcs : tagC t = cs) (hw : t.wt ≤ 1000000000) : Spec Tryz.prog G 65 [.g cs] (.one (.c (.v (.bool (t.blank isV))))) := by
  subst hcs
  have hs := prsame_m (G := G) t.ord t.lo t.hi 0 Bd.none Bd.none
  have hm := may11_m (G := G) t.ord t.lo t.hi (by rw [t.wt_eq] at hw; omega) (by rw [t.wt_eq] at hw; omega)
  have hp := plain_same t
  rw [← hp] at hs
  have ed := pos_len t.data
  have ek := pos_len t.kids
  have key : ∀ k : UInt8, ((t.kind.toNat : Int) == (k.toNat : Int)) = decide (t.kind = k) := fun k => by rw [u8_beq]; exact Bool.beq_eq_decide_eq _ _
  have e1 : ((t.kind.toNat : Int) == 1) = decide (t.kind = 1) := key 1
  have e2 : ((t.kind.toNat : Int) == 2) = decide (t.kind = 2) := key 2
  have e3 : ((t.kind.toNat : Int) == 3) = decide (t.kind = 3) := key 3
  have e4 : ((t.kind.toNat : Int) == 4) = decide (t.kind = 4) := key 4
  have e5 : ((t.kind.toNat : Int) == 5) = decide (t.kind = 5) := key 5
  have e6 : ((t.kind.toNat : Int) == 6) = decide (t.kind = 6) := key 6
  clear key hp
  have hq : t.blank isV = if t.kind = 1 then t.plain && (emptyL t.data && emptyL t.kids) else if t.kind = 2 ∨ t.kind = 5 then t.plain && emptyL t.kids else if t.kind = 3 ∨ t.kind = 4 then t.plain && emptyL t.data else decide (t.kind = 6) && (mayR isV t.ord t.lo t.hi && (emptyL t.data && emptyL t.kids)) := rfl
  rw [hq, tagC_eq]
  clear hq
  generalize t.plain = pl at *
  generalize mayR isV t.ord t.lo t.hi = mr at *
  generalize emptyL t.data = zd at *
  generalize emptyL t.kids = zk at *
  unfold rgD bdD bD bytesD at *
  by_cases c1 : t.kind = 1
  · rw [decide_eq_true c1] at e1
    rw [if_pos c1]
    cases pl <;> cases zd <;> cases zk
    all_goals
      refine spec_of Tryz.func65 rfl rfl rfl (by kernel_rfl) rfl fun K => ?_
      (repeat' (first | with_reducible (first | refine zA fun Kn hK => ?_ | refine zB (by kernel_rfl) ?_ | refine Nx.go ?_ | go_step) | (refine ⟨_, hs, ?_⟩) | with_reducible (first | refine zI ?_ | refine zJ ?_ | refine zK ?_ ?_ | refine zL ?_ ?_ | refine zR (by kernel_rfl) ?_) | simp (maxSteps := 9999999) (disch := omega) only [wq] | (with_reducible refine zM (fun hb => ?_) (fun hb => ?_) <;> (try simp only [hb])) | (with_reducible refine And.intro (by first | omega | (simp; done) | (simp; omega)) ?_) | simp (maxSteps := 9999999) (implicitDefEqProofs := false) only [go_sem, gt_iff_lt, e1, ed, ek, bD] | fail))
      all_goals try rfl
  rw [decide_eq_false c1] at e1
  rw [if_neg c1]
  by_cases c2 : t.kind = 2
  · rw [decide_eq_true c2] at e2
    rw [if_pos (.inl c2)]
    cases pl <;> cases zk
    all_goals
      refine spec_of Tryz.func65 rfl rfl rfl (by kernel_rfl) rfl fun K => ?_
      (repeat' (first | with_reducible (first | refine zA fun Kn hK => ?_ | refine zB (by kernel_rfl) ?_ | refine Nx.go ?_ | go_step) | (refine ⟨_, hs, ?_⟩) | with_reducible (first | refine zI ?_ | refine zJ ?_ | refine zK ?_ ?_ | refine zL ?_ ?_ | refine zR (by kernel_rfl) ?_) | simp (maxSteps := 9999999) (disch := omega) only [wq] | (with_reducible refine zM (fun hb => ?_) (fun hb => ?_) <;> (try simp only [hb])) | (with_reducible refine And.intro (by first | omega | (simp; done) | (simp; omega)) ?_) | simp (maxSteps := 9999999) (implicitDefEqProofs := false) only [go_sem, gt_iff_lt, e1, e2, ed, ek, bD] | fail))
      all_goals try rfl
  rw [decide_eq_false c2] at e2
  by_cases c5 : t.kind = 5
  · rw [decide_eq_true c5] at e5
    rw [if_pos (.inr c5)]
    cases pl <;> cases zk
    all_goals
      refine spec_of Tryz.func65 rfl rfl rfl (by kernel_rfl) rfl fun K => ?_
      (repeat' (first | with_reducible (first | refine zA fun Kn hK => ?_ | refine zB (by kernel_rfl) ?_ | refine Nx.go ?_ | go_step) | (refine ⟨_, hs, ?_⟩) | with_reducible (first | refine zI ?_ | refine zJ ?_ | refine zK ?_ ?_ | refine zL ?_ ?_ | refine zR (by kernel_rfl) ?_) | simp (maxSteps := 9999999) (disch := omega) only [wq] | (with_reducible refine zM (fun hb => ?_) (fun hb => ?_) <;> (try simp only [hb])) | (with_reducible refine And.intro (by first | omega | (simp; done) | (simp; omega)) ?_) | simp (maxSteps := 9999999) (implicitDefEqProofs := false) only [go_sem, gt_iff_lt, e1, e2, e5, ed, ek, bD] | fail))
      all_goals try rfl
  rw [decide_eq_false c5] at e5
  rw [if_neg (by simp [c2, c5])]
  by_cases c3 : t.kind = 3
  · rw [decide_eq_true c3] at e3
    rw [if_pos (.inl c3)]
    cases pl <;> cases zd
    all_goals
      refine spec_of Tryz.func65 rfl rfl rfl (by kernel_rfl) rfl fun K => ?_
      (repeat' (first | with_reducible (first | refine zA fun Kn hK => ?_ | refine zB (by kernel_rfl) ?_ | refine Nx.go ?_ | go_step) | (refine ⟨_, hs, ?_⟩) | with_reducible (first | refine zI ?_ | refine zJ ?_ | refine zK ?_ ?_ | refine zL ?_ ?_ | refine zR (by kernel_rfl) ?_) | simp (maxSteps := 9999999) (disch := omega) only [wq] | (with_reducible refine zM (fun hb => ?_) (fun hb => ?_) <;> (try simp only [hb])) | (with_reducible refine And.intro (by first | omega | (simp; done) | (simp; omega)) ?_) | simp (maxSteps := 9999999) (implicitDefEqProofs := false) only [go_sem, gt_iff_lt, e1, e2, e3, e5, ed, ek, bD] | fail))
      all_goals try rfl
  rw [decide_eq_false c3] at e3
  by_cases c4 : t.kind = 4
  · rw [decide_eq_true c4] at e4
    rw [if_pos (.inr c4)]
    cases pl <;> cases zd
    all_goals
      refine spec_of Tryz.func65 rfl rfl rfl (by kernel_rfl) rfl fun K => ?_
      (repeat' (first | with_reducible (first | refine zA fun Kn hK => ?_ | refine zB (by kernel_rfl) ?_ | refine Nx.go ?_ | go_step) | (refine ⟨_, hs, ?_⟩) | with_reducible (first | refine zI ?_ | refine zJ ?_ | refine zK ?_ ?_ | refine zL ?_ ?_ | refine zR (by kernel_rfl) ?_) | simp (maxSteps := 9999999) (disch := omega) only [wq] | (with_reducible refine zM (fun hb => ?_) (fun hb => ?_) <;> (try simp only [hb])) | (with_reducible refine And.intro (by first | omega | (simp; done) | (simp; omega)) ?_) | simp (maxSteps := 9999999) (implicitDefEqProofs := false) only [go_sem, gt_iff_lt, e1, e2, e3, e4, e5, ed, ek, bD] | fail))
      all_goals try rfl
  rw [decide_eq_false c4] at e4
  rw [if_neg (by simp [c3, c4])]
  by_cases c6 : t.kind = 6
  · rw [decide_eq_true c6] at e6
    rw [decide_eq_true c6]
    cases zk <;> cases zd <;> cases mr
    all_goals
      refine spec_of Tryz.func65 rfl rfl rfl (by kernel_rfl) rfl fun K => ?_
      (repeat' (first | with_reducible (first | refine zA fun Kn hK => ?_ | refine zB (by kernel_rfl) ?_ | refine Nx.go ?_ | go_step) | (refine ⟨_, hs, ?_⟩) | (refine ⟨_, hm, ?_⟩) | with_reducible (first | refine zI ?_ | refine zJ ?_ | refine zK ?_ ?_ | refine zL ?_ ?_ | refine zR (by kernel_rfl) ?_) | simp (maxSteps := 9999999) (disch := omega) only [wq] | (with_reducible refine zM (fun hb => ?_) (fun hb => ?_) <;> (try simp only [hb])) | (with_reducible refine And.intro (by first | omega | (simp; done) | (simp; omega)) ?_) | simp (maxSteps := 9999999) (implicitDefEqProofs := false) only [go_sem, gt_iff_lt, e1, e2, e3, e4, e5, e6, ed, ek, bD] | fail))
      all_goals try rfl
  · rw [decide_eq_false c6] at e6
    rw [decide_eq_false c6]
    skip
    all_goals
      refine spec_of Tryz.func65 rfl rfl rfl (by kernel_rfl) rfl fun K => ?_
      (repeat' (first | with_reducible (first | refine zA fun Kn hK => ?_ | refine zB (by kernel_rfl) ?_ | refine Nx.go ?_ | go_step) | (refine ⟨_, hs, ?_⟩) | with_reducible (first | refine zI ?_ | refine zJ ?_ | refine zK ?_ ?_ | refine zL ?_ ?_ | refine zR (by kernel_rfl) ?_) | simp (maxSteps := 9999999) (disch := omega) only [wq] | (with_reducible refine zM (fun hb => ?_) (fun hb => ?_) <;> (try simp only [hb])) | (with_reducible refine And.intro (by first | omega | (simp; done) | (simp; omega)) ?_) | simp (maxSteps := 9999999) (implicitDefEqProofs := false) only [go_sem, gt_iff_lt, e1, e2, e3, e4, e5, e6, ed, ek, bD] | fail))
      all_goals try rfl
/-! a function asked of the elements in a row -/
def hitI {α : Type} (q : α → Bool) (l : List α) : Int := if l.any q = true then (l.findIdx q : Int) else -1
theorem hit_pos {α : Type} (q : α → Bool) (l : List α) : decide (hitI q l ≥ 0) = l.any q := by
  unfold hitI
  cases h : l.any q with
  | true =>
    simp only [if_true, decide_eq_true_iff]
    omega
  | false => simp
theorem hit_at {α : Type} {q : α → Bool} {l : List α} {k : Nat} {x : α} (hx : l[k]? = some x) (hq : q x = true) (hall : ∀ y ∈ l.take k, q y = false) : hitI q l = (k : Int) := by
  unfold hitI
  rw [if_pos (List.any_eq_true.2 ⟨x, List.mem_of_getElem? hx, hq⟩)]
  obtain ⟨hk, e⟩ := List.getElem?_eq_some_iff.1 hx
  have : l.findIdx q = k := (List.findIdx_eq hk).2 ⟨by rw [e]; exact hq, fun j hj => hall _ (List.mem_take_iff_getElem.2 ⟨j, by omega, rfl⟩)⟩
  rw [this]
theorem hit_no {α : Type} {q : α → Bool} {l : List α} (hall : ∀ y ∈ l, q y = false) : hitI q l = -1 := by
  unfold hitI
  rw [if_neg]
  rw [List.any_eq_true]
  rintro ⟨x, hx, h⟩
  rw [hall x hx] at h
  cases h
theorem take_more {α : Type} {q : α → Bool} {l : List α} {k : Nat} {x : α} (hx : l[k]? = some x) (hq : q x = false) (hall : ∀ y ∈ l.take k, q y = false) : ∀ y ∈ l.take (k + 1), q y = false := by
  intro y hy
  rw [List.take_add_one, hx] at hy
  rcases List.mem_append.1 hy with h | h
  · exact hall y h
  · simp at h
    rw [h]
    exact hq
theorem indexFuncTag (l : List Tg) (q : Tg → Bool) (f : FuncId) (caps : List D) (hf : funcOk Tryz.prog f = true) (hl : l.length ≤ 100000000) (ih : ∀ x ∈ l, Spec Tryz.prog G f (.g (tagC x) :: caps.map DV.c) (.one (.c (.v (.bool (q x)))))) :
    Spec Tryz.prog G 78 [.c (.sl l.length (l.flatMap tagC)), .c (.fn f caps)] (.one (.c (.v (.int .i64 (hitI q l))))) := by
  refine spec_of Tryz.func78 rfl rfl rfl (by kernel_rfl) rfl fun K => ?_
  (repeat' (first | with_reducible (first | refine zA fun Kn hK => ?_ | refine zB (by kernel_rfl) ?_ | refine Nx.go ?_ | go_step) | fail | with_reducible (first | refine zI ?_ | refine zJ ?_ | refine zK ?_ ?_ | refine zL ?_ ?_ | refine zR (by kernel_rfl) ?_) | simp (maxSteps := 9999999) (disch := omega) only [wq] | (with_reducible refine zM (fun hb => ?_) (fun hb => ?_) <;> (try simp only [hb])) | (with_reducible refine And.intro (by first | omega | (simp; done) | (simp; omega)) ?_) | simp (maxSteps := 9999999) (implicitDefEqProofs := false) only [go_sem, true_and] | fail))
  refine sound_loopR (fun x : {k : Nat // k ≤ l.length ∧ ∀ y ∈ l.take k, q y = false} => ⟨[(0, vD (.sl l.length (l.flatMap tagC))), (1, vD (.fn f caps)), (7, vI l.length), (8, vI x.1)], []⟩) (fun x => l.length - x.1) ⟨0, by simp⟩ [] (by (iterate 2 ((try simp (maxSteps := 9999999) (implicitDefEqProofs := false) only [go_sem, true_and]); (try simp (maxSteps := 9999999) (disch := omega) only [wq]))); try simp) (fun ⟨k, hk, hall⟩ => ?_)
  by_cases hlt : k < l.length
  · obtain ⟨x, hx⟩ : ∃ x, l[k]? = some x := ⟨_, List.getElem?_eq_getElem hlt⟩
    have hb : decide ((k : Int) < (l.length : Int)) = true := by simpa using hlt
    have hi := ih x (List.mem_of_getElem? hx)
    cases hq : q x with
    | true =>
      rw [hq] at hi
      rw [hit_at hx hq hall]
      (repeat' (first | with_reducible (first | refine zA fun Kn hK => ?_ | refine zB (by kernel_rfl) ?_ | refine Nx.go ?_ | go_step) | (refine ⟨_, hi, ?_⟩) | with_reducible (first | refine zI ?_ | refine zJ ?_ | refine zK ?_ ?_ | refine zL ?_ ?_ | refine zR (by kernel_rfl) ?_) | simp (maxSteps := 9999999) (disch := omega) only [wq] | (with_reducible refine zM (fun hb => ?_) (fun hb => ?_) <;> (try simp only [hb])) | (with_reducible refine And.intro (by first | omega | (simp; done) | (simp; omega)) ?_) | simp (maxSteps := 9999999) (implicitDefEqProofs := false) only [go_sem, hb, hf, flat_at tagC_len hx] | fail))
    | false =>
      rw [hq] at hi
      (repeat' (first | with_reducible (first | refine zA fun Kn hK => ?_ | refine zB (by kernel_rfl) ?_ | refine Nx.go ?_ | go_step) | (refine ⟨_, hi, ?_⟩) | with_reducible (first | refine zI ?_ | refine zJ ?_ | refine zK ?_ ?_ | refine zL ?_ ?_ | refine zR (by kernel_rfl) ?_) | simp (maxSteps := 9999999) (disch := omega) only [wq] | (with_reducible refine zM (fun hb => ?_) (fun hb => ?_) <;> (try simp only [hb])) | (with_reducible refine And.intro (by first | omega | (simp; done) | (simp; omega)) ?_) | simp (maxSteps := 9999999) (implicitDefEqProofs := false) only [go_sem, hb, hf, flat_at tagC_len hx] | fail))
      refine ⟨[], ⟨k + 1, hlt, take_more hx hq hall⟩, ?_⟩
      (iterate 2 ((try simp (maxSteps := 9999999) (implicitDefEqProofs := false) only [go_sem, true_and]); (try simp (maxSteps := 9999999) (disch := omega) only [wq])))
      (simp only [ijq, true_and, and_true]; first | done | omega | (split <;> omega) | (simp; done) | (simp; omega))
  · have hb : decide ((k : Int) < (l.length : Int)) = false := by simpa using hlt
    obtain rfl : k = l.length := by omega
    rw [List.take_length] at hall
    (repeat' (first | with_reducible (first | refine zA fun Kn hK => ?_ | refine zB (by kernel_rfl) ?_ | refine Nx.go ?_ | go_step) | fail | with_reducible (first | refine zI ?_ | refine zJ ?_ | refine zK ?_ ?_ | refine zL ?_ ?_ | refine zR (by kernel_rfl) ?_) | simp (maxSteps := 9999999) (disch := omega) only [wq] | (with_reducible refine zM (fun hb => ?_) (fun hb => ?_) <;> (try simp only [hb])) | (with_reducible refine And.intro (by first | omega | (simp; done) | (simp; omega)) ?_) | simp (maxSteps := 9999999) (implicitDefEqProofs := false) only [go_sem, hb] | fail))
    rw [hit_no hall]
theorem containsFuncTag (l : List Tg) (q : Tg → Bool) (f : FuncId) (caps : List D) (hf : funcOk Tryz.prog f = true) (hl : l.length ≤ 100000000) (ih : ∀ x ∈ l, Spec Tryz.prog G f (.g (tagC x) :: caps.map DV.c) (.one (.c (.v (.bool (q x)))))) :
    Spec Tryz.prog G 66 [.c (.sl l.length (l.flatMap tagC)), .c (.fn f caps)] (.one (.c (.v (.bool (l.any q))))) := by
  have h1 := indexFuncTag (G := G) l q f caps hf hl ih
  rw [← hit_pos q l]
  refine spec_of Tryz.func66 rfl rfl rfl (by kernel_rfl) rfl fun K => ?_
  (repeat' (first | with_reducible (first | refine zA fun Kn hK => ?_ | refine zB (by kernel_rfl) ?_ | refine Nx.go ?_ | go_step) | (refine ⟨_, h1, ?_⟩) | with_reducible (first | refine zI ?_ | refine zJ ?_ | refine zK ?_ ?_ | refine zL ?_ ?_ | refine zR (by kernel_rfl) ?_) | simp (maxSteps := 9999999) (disch := omega) only [wq] | (with_reducible refine zM (fun hb => ?_) (fun hb => ?_) <;> (try simp only [hb])) | (with_reducible refine And.intro (by first | omega | (simp; done) | (simp; omega)) ?_) | simp (maxSteps := 9999999) (implicitDefEqProofs := false) only [go_sem, true_and] | fail))
theorem indexFuncSexp (l : List Tree) (q : Tree → Bool) (f : FuncId) (caps : List D) (hf : funcOk Tryz.prog f = true) (hl : l.length ≤ 100000000) (ih : ∀ x ∈ l, Spec Tryz.prog G f (.g (treeC x) :: []) (.one (.c (.v (.bool (q x)))))) :
    Spec Tryz.prog G 76 [.c (.sl l.length (l.flatMap treeC)), .c (.v (.func (.func f) #[] #[]))] (.one (.c (.v (.int .i64 (hitI q l))))) := by
  refine spec_of Tryz.func76 rfl rfl rfl (by kernel_rfl) rfl fun K => ?_
  (repeat' (first | with_reducible (first | refine zA fun Kn hK => ?_ | refine zB (by kernel_rfl) ?_ | refine Nx.go ?_ | go_step) | fail | with_reducible (first | refine zI ?_ | refine zJ ?_ | refine zK ?_ ?_ | refine zL ?_ ?_ | refine zR (by kernel_rfl) ?_) | simp (maxSteps := 9999999) (disch := omega) only [wq] | (with_reducible refine zM (fun hb => ?_) (fun hb => ?_) <;> (try simp only [hb])) | (with_reducible refine And.intro (by first | omega | (simp; done) | (simp; omega)) ?_) | simp (maxSteps := 9999999) (implicitDefEqProofs := false) only [go_sem, true_and] | fail))
  refine sound_loopR (fun x : {k : Nat // k ≤ l.length ∧ ∀ y ∈ l.take k, q y = false} => ⟨[(0, vD (.sl l.length (l.flatMap treeC))), (1, vD (.v (.func (.func f) #[] #[]))), (7, vI l.length), (8, vI x.1)], []⟩) (fun x => l.length - x.1) ⟨0, by simp⟩ [] (by (iterate 2 ((try simp (maxSteps := 9999999) (implicitDefEqProofs := false) only [go_sem, true_and]); (try simp (maxSteps := 9999999) (disch := omega) only [wq]))); try simp) (fun ⟨k, hk, hall⟩ => ?_)
  by_cases hlt : k < l.length
  · obtain ⟨x, hx⟩ : ∃ x, l[k]? = some x := ⟨_, List.getElem?_eq_getElem hlt⟩
    have hb : decide ((k : Int) < (l.length : Int)) = true := by simpa using hlt
    have hi := ih x (List.mem_of_getElem? hx)
    cases hq : q x with
    | true =>
      rw [hq] at hi
      rw [hit_at hx hq hall]
      (repeat' (first | with_reducible (first | refine zA fun Kn hK => ?_ | refine zB (by kernel_rfl) ?_ | refine Nx.go ?_ | go_step) | (refine ⟨_, hi, ?_⟩) | with_reducible (first | refine zI ?_ | refine zJ ?_ | refine zK ?_ ?_ | refine zL ?_ ?_ | refine zR (by kernel_rfl) ?_) | simp (maxSteps := 9999999) (disch := omega) only [wq] | (with_reducible refine zM (fun hb => ?_) (fun hb => ?_) <;> (try simp only [hb])) | (with_reducible refine And.intro (by first | omega | (simp; done) | (simp; omega)) ?_) | simp (maxSteps := 9999999) (implicitDefEqProofs := false) only [go_sem, hb, hf, flat_at treeC_len hx] | fail))
    | false =>
      rw [hq] at hi
      (repeat' (first | with_reducible (first | refine zA fun Kn hK => ?_ | refine zB (by kernel_rfl) ?_ | refine Nx.go ?_ | go_step) | (refine ⟨_, hi, ?_⟩) | with_reducible (first | refine zI ?_ | refine zJ ?_ | refine zK ?_ ?_ | refine zL ?_ ?_ | refine zR (by kernel_rfl) ?_) | simp (maxSteps := 9999999) (disch := omega) only [wq] | (with_reducible refine zM (fun hb => ?_) (fun hb => ?_) <;> (try simp only [hb])) | (with_reducible refine And.intro (by first | omega | (simp; done) | (simp; omega)) ?_) | simp (maxSteps := 9999999) (implicitDefEqProofs := false) only [go_sem, hb, hf, flat_at treeC_len hx] | fail))
      refine ⟨[], ⟨k + 1, hlt, take_more hx hq hall⟩, ?_⟩
      (iterate 2 ((try simp (maxSteps := 9999999) (implicitDefEqProofs := false) only [go_sem, true_and]); (try simp (maxSteps := 9999999) (disch := omega) only [wq])))
      (simp only [ijq, true_and, and_true]; first | done | omega | (split <;> omega) | (simp; done) | (simp; omega))
  · have hb : decide ((k : Int) < (l.length : Int)) = false := by simpa using hlt
    obtain rfl : k = l.length := by omega
    rw [List.take_length] at hall
    (repeat' (first | with_reducible (first | refine zA fun Kn hK => ?_ | refine zB (by kernel_rfl) ?_ | refine Nx.go ?_ | go_step) | fail | with_reducible (first | refine zI ?_ | refine zJ ?_ | refine zK ?_ ?_ | refine zL ?_ ?_ | refine zR (by kernel_rfl) ?_) | simp (maxSteps := 9999999) (disch := omega) only [wq] | (with_reducible refine zM (fun hb => ?_) (fun hb => ?_) <;> (try simp only [hb])) | (with_reducible refine And.intro (by first | omega | (simp; done) | (simp; omega)) ?_) | simp (maxSteps := 9999999) (implicitDefEqProofs := false) only [go_sem, hb] | fail))
    rw [hit_no hall]
theorem containsFuncSexp (l : List Tree) (q : Tree → Bool) (f : FuncId) (caps : List D) (hf : funcOk Tryz.prog f = true) (hl : l.length ≤ 100000000) (ih : ∀ x ∈ l, Spec Tryz.prog G f (.g (treeC x) :: []) (.one (.c (.v (.bool (q x)))))) :
    Spec Tryz.prog G 59 [.c (.sl l.length (l.flatMap treeC)), .c (.v (.func (.func f) #[] #[]))] (.one (.c (.v (.bool (l.any q))))) := by
  have h1 := indexFuncSexp (G := G) l q f caps hf hl ih
  rw [← hit_pos q l]
  refine spec_of Tryz.func59 rfl rfl rfl (by kernel_rfl) rfl fun K => ?_
  (repeat' (first | with_reducible (first | refine zA fun Kn hK => ?_ | refine zB (by kernel_rfl) ?_ | refine Nx.go ?_ | go_step) | (refine ⟨_, h1, ?_⟩) | with_reducible (first | refine zI ?_ | refine zJ ?_ | refine zK ?_ ?_ | refine zL ?_ ?_ | refine zR (by kernel_rfl) ?_) | simp (maxSteps := 9999999) (disch := omega) only [wq] | (with_reducible refine zM (fun hb => ?_) (fun hb => ?_) <;> (try simp only [hb])) | (with_reducible refine And.intro (by first | omega | (simp; done) | (simp; omega)) ?_) | simp (maxSteps := 9999999) (implicitDefEqProofs := false) only [go_sem, true_and] | fail))
end
end Go.Proofs.YtbeghpkkpnbkgaaGreatDoor
/- Tags: the document's May; ends, ranges. -/
namespace Go.Proofs.YtbeghpkkpnbkgaaGreatDoor
open Go.RowKit
theorem flat_drop {α : Type} {f : α → List D} {n : Nat} (hf : ∀ x, (f x).length = n) : ∀ (l : List α) (k : Nat), (l.flatMap f).drop (k * n) = (l.drop k).flatMap f
  | l, 0 => by simp
  | [], k + 1 => by simp
  | x :: l, k + 1 => by
    rw [List.flatMap_cons, List.drop_append, List.drop_of_length_le (by rw [hf, Nat.add_mul]; omega), List.nil_append, hf, show (k + 1) * n - n = k * n by rw [Nat.add_mul]; omega, flat_drop hf l k]
    rfl
/-- The cells of the value at a place. -/
theorem tree_at {l : List Tree} {i : Nat} {x : Tree} (hx : l[i]? = some x) : (l.flatMap treeC)[i * 5]? = some (.v (.bool x.list)) ∧ (l.flatMap treeC)[i * 5 + 1]? = some (.v (.bool x.hinted)) ∧ (l.flatMap treeC)[i * 5 + 3]? = some (bytesD x.data) ∧ (l.flatMap treeC)[i * 5 + 4]? = some (.sl x.kids.length (x.kids.flatMap treeC)) := by
  have h := flat_at (f := treeC) treeC_len hx
  have k : ∀ j, j < 5 → (l.flatMap treeC)[i * 5 + j]? = (treeC x)[j]? := fun j hj => by rw [← h, List.getElem?_take, if_pos hj, List.getElem?_drop]
  have k0 := k 0 (by omega)
  rw [Nat.add_zero] at k0
  rw [k0, k 1 (by omega), k 3 (by omega), k 4 (by omega), treeC_eq]
  exact ⟨rfl, rfl, rfl, rfl⟩
theorem len_pos {α : Type} {l : List α} {i : Nat} {x : α} (h : l[i]? = some x) : i < l.length := (List.getElem?_eq_some_iff.1 h).1
@[go_sem] theorem flat_takeT (l : List Tree) : (l.flatMap treeC).take (l.length * 5) = l.flatMap treeC := List.take_of_length_le (by rw [treeC_flen]; exact Nat.le_refl _)
section
variable {G : Nat → Option (List D)}
theorem rmay12_m (t : Tg) {cs : List D} (hcs : tagC t = cs) (hw : t.wt ≤ 5000000) (hn : t.nodes ≤ 100000) : Spec Tryz.prog G 10 [.g cs] (.one (.c (.v (.bool (t.right isV && t.val.may))))) := by
  subst hcs
  have h1 := rright12_m (G := G) t _ rfl (by omega)
  have h2 := rvalue12_m (G := G) t _ rfl (by omega)
  have h3 := may_m (G := G) t.val rfl (by have := val_wt t; omega)
  have ev := treeC_eq t.val
  generalize t.val.may = m at *
  generalize treeC t.val = T at *
  rw [tagC_eq] at h1 h2 ⊢
  cases q : t.right isV with
  | false =>
    rw [q] at h1
    refine spec_of Tryz.func10 rfl rfl rfl (by kernel_rfl) rfl fun K => ?_
    (repeat' (first | with_reducible (first | refine zA fun Kn hK => ?_ | refine zB (by kernel_rfl) ?_ | refine Nx.go ?_ | go_step) | (refine ⟨_, h1, ?_⟩) | with_reducible (first | refine zI ?_ | refine zJ ?_ | refine zK ?_ ?_ | refine zL ?_ ?_ | refine zR (by kernel_rfl) ?_) | simp (maxSteps := 9999999) (disch := omega) only [wq] | (with_reducible refine zM (fun hb => ?_) (fun hb => ?_) <;> (try simp only [hb])) | (with_reducible refine And.intro (by first | omega | (simp; done) | (simp; omega)) ?_) | simp (maxSteps := 9999999) (implicitDefEqProofs := false) only [go_sem, Bool.false_and] | fail))
  | true =>
    rw [q] at h1
    have h2 := h2 q
    rw [ev] at h2 h3
    refine spec_of Tryz.func10 rfl rfl rfl (by kernel_rfl) rfl fun K => ?_
    (repeat' (first | with_reducible (first | refine zA fun Kn hK => ?_ | refine zB (by kernel_rfl) ?_ | refine Nx.go ?_ | go_step) | (refine ⟨_, h1, ?_⟩) | (refine ⟨_, h2, ?_⟩) | (refine ⟨_, h3, ?_⟩) | with_reducible (first | refine zI ?_ | refine zJ ?_ | refine zK ?_ ?_ | refine zL ?_ ?_ | refine zR (by kernel_rfl) ?_) | simp (maxSteps := 9999999) (disch := omega) only [wq] | (with_reducible refine zM (fun hb => ?_) (fun hb => ?_) <;> (try simp only [hb])) | (with_reducible refine And.intro (by first | omega | (simp; done) | (simp; omega)) ?_) | simp (maxSteps := 9999999) (implicitDefEqProofs := false) only [go_sem, Bool.true_and] | fail))
/-- What an end answers: an end, and what is left, whatever they are where it is wrong. -/
structure EndR (G : Nat → Option (List D)) (l : List Tree) (w : List UInt8) (b : Bd) (m : List Tree) : Prop where
  is : ∀ p, endT l w = some p → p = (b, m)
  txt : b.txt = [] ∨ ∃ y ∈ l, b.txt = y.data
  len : m.length ≤ l.length
  mem : ∀ x ∈ m, x ∈ l
  spec : Spec Tryz.prog G 79 [.c (.sl l.length (l.flatMap treeC)), .c (.v (.string ⟨w.toArray⟩))] (.many [.g (bdD b), .c (.sl m.length (m.flatMap treeC)), .c (.v (.bool (endT l w).isSome))])
theorem rend12_m (l : List Tree) (w : List UInt8) (hw : w.length ≤ 1000) (hl : l.length ≤ 100000000) : ∃ b m, EndR G l w b m := by
  match l, hl with
  | [], _ =>
    refine ⟨Bd.none, [], fun p h => (by simpa [endT] using h.symm), .inl rfl, Nat.le_refl _, fun x hx => hx, ?_⟩
    unfold bdD Bd.none
    have z0 : (((([] : List Tree).length : Nat) : Int) == 0) = true := rfl
    have z1 : endT [] w = some (Bd.none, []) := rfl
    rw [z1]
    clear z1
    generalize ([] : List Tree) = L at *
    refine spec_of Tryz.func79 rfl rfl rfl (by kernel_rfl) rfl fun K => ?_
    (repeat' (first | with_reducible (first | refine zA fun Kn hK => ?_ | refine zB (by kernel_rfl) ?_ | refine Nx.go ?_ | go_step) | fail | with_reducible (first | refine zI ?_ | refine zJ ?_ | refine zK ?_ ?_ | refine zL ?_ ?_ | refine zR (by kernel_rfl) ?_) | simp (maxSteps := 9999999) (disch := omega) only [wq] | (with_reducible refine zM (fun hb => ?_) (fun hb => ?_) <;> (try simp only [hb])) | (with_reducible refine And.intro (by first | omega | (simp; done) | (simp; omega)) ?_) | simp (maxSteps := 9999999) (implicitDefEqProofs := false) only [go_sem, z0, bD, bytesD] | fail))
    all_goals rfl
  | x :: l, hl =>
    have h1 := isref_m (G := G) x rfl w
    have h2 := isref_m (G := G) x rfl (w ++ [101])
    have hx : (x :: l)[0]? = some x := rfl
    have f0 := flat_at (f := treeC) treeC_len hx
    simp only [Nat.zero_mul, List.drop_zero] at f0
    have n0 : (((x :: l).length : Int) == 0) = false := by rw [beq_eq_false_iff_ne, List.length_cons]; omega
    have n1 : (0 : Int) < ((x :: l).length : Int) := by rw [List.length_cons]; omega
    have n1' : 0 < (x :: l).length := by rw [List.length_cons]; omega
    have p1 : (x :: l).length = l.length + 1 := rfl
    by_cases hw1 : (isB x w || isB x (w ++ [101])) = true
    · match l, hl with
      | [], _ =>
        have he : endT [x] w = none := by rw [endT, if_pos hw1]
        refine ⟨Bd.none, [x], fun p h => (by rw [he] at h; cases h), .inl rfl, Nat.le_refl _, fun x hx => hx, ?_⟩
        rw [he]
        have d2 : decide ((([x] : List Tree).length : Int) < 2) = true := rfl
        generalize [x] = L at *
        generalize isB x w = q1 at *
        generalize isB x (w ++ [101]) = q2 at *
        unfold bdD Bd.none
        cases q1 <;> cases q2
        case false.false => cases hw1
        all_goals
          refine spec_of Tryz.func79 rfl rfl rfl (by kernel_rfl) rfl fun K => ?_
          (repeat' (first | with_reducible (first | refine zA fun Kn hK => ?_ | refine zB (by kernel_rfl) ?_ | refine Nx.go ?_ | go_step) | (refine ⟨_, h1, ?_⟩) | (refine ⟨_, h2, ?_⟩) | with_reducible (first | refine zI ?_ | refine zJ ?_ | refine zK ?_ ?_ | refine zL ?_ ?_ | refine zR (by kernel_rfl) ?_) | simp (maxSteps := 9999999) (disch := omega) only [wq] | (with_reducible refine zM (fun hb => ?_) (fun hb => ?_) <;> (try simp only [hb])) | (with_reducible refine And.intro (by first | omega | (simp; done) | (simp; omega)) ?_) | simp (maxSteps := 9999999) (implicitDefEqProofs := false) only [go_sem, n0, n1, n1', d2, f0, bD, bytesD] | fail))
          all_goals rfl
      | y :: l, hl =>
        have hy : (x :: y :: l)[1]? = some y := rfl
        obtain ⟨a0, a1, a3, a4⟩ := tree_at hy
        have d2 : decide ((((x :: y :: l) : List Tree).length : Int) < 2) = false := by rw [decide_eq_false_iff_not, List.length_cons, List.length_cons]; omega
        have m1 : (1 : Int) < ((x :: y :: l).length : Int) := by rw [List.length_cons, List.length_cons]; omega
        have m1' : 1 < (x :: y :: l).length := by rw [List.length_cons, List.length_cons]; omega
        have m2 : 2 ≤ (x :: y :: l).length := by rw [List.length_cons, List.length_cons]; omega
        have dr := flat_drop (f := treeC) treeC_len (x :: y :: l) 2
        have dl : (x :: y :: l).length - 2 = l.length := by simp
        have dl2 : (((x :: y :: l).length : Int) - 2) = (l.length : Int) := by rw [List.length_cons, List.length_cons]; omega
        have hdr : (x :: y :: l).drop 2 = l := rfl
        rw [hdr] at dr
        simp only [Nat.reduceMul, Nat.reduceAdd, Nat.one_mul] at a0 a1 a3 a4 dr
        have key : (y.list || y.hinted) = true ∧ endT (x :: y :: l) w = none ∨ (y.list || y.hinted) = false ∧ endT (x :: y :: l) w = some (⟨true, isB x w, y.data⟩, l) := by
          rw [endT, if_pos hw1]
          cases (y.list || y.hinted)
          · exact .inr ⟨rfl, rfl⟩
          · exact .inl ⟨rfl, rfl⟩
        rcases key with ⟨hb, he⟩ | ⟨hb, he⟩
        · refine ⟨Bd.none, x :: y :: l, fun p h => (by rw [he] at h; cases h), .inl rfl, Nat.le_refl _, fun x hx => hx, ?_⟩
          rw [he]
          clear he dr dl dl2 hdr hx hy p1
          generalize x :: y :: l = L at *
          generalize isB x w = q1 at *
          generalize isB x (w ++ [101]) = q2 at *
          generalize y.list = r1 at *
          generalize y.hinted = r2 at *
          unfold bdD Bd.none
          cases q1 <;> cases q2
          case false.false => cases hw1
          all_goals cases r1 <;> cases r2
          all_goals first
            | (exfalso; simp at hb; done)
            | (refine spec_of Tryz.func79 rfl rfl rfl (by kernel_rfl) rfl fun K => ?_
               (repeat' (first | with_reducible (first | refine zA fun Kn hK => ?_ | refine zB (by kernel_rfl) ?_ | refine Nx.go ?_ | go_step) | (refine ⟨_, h1, ?_⟩) | (refine ⟨_, h2, ?_⟩) | with_reducible (first | refine zI ?_ | refine zJ ?_ | refine zK ?_ ?_ | refine zL ?_ ?_ | refine zR (by kernel_rfl) ?_) | simp (maxSteps := 9999999) (disch := omega) only [wq] | (with_reducible refine zM (fun hb => ?_) (fun hb => ?_) <;> (try simp only [hb])) | (with_reducible refine And.intro (by first | omega | (simp; done) | (simp; omega)) ?_) | simp (maxSteps := 9999999) (implicitDefEqProofs := false) only [go_sem, n0, n1, n1', d2, f0, m1, m1', a0, a1, bD, bytesD] | fail))
               all_goals rfl)
        · refine ⟨⟨true, isB x w, y.data⟩, l, fun p h => (by rw [he] at h; injection h with h; exact h.symm), .inr ⟨y, by simp, rfl⟩, by simp; omega, fun z hz => by simp [hz], ?_⟩
          rw [he]
          rw [Bool.or_eq_false_iff] at hb
          rw [hb.1] at a0
          rw [hb.2] at a1
          clear he hdr hx hy p1 hb
          generalize x :: y :: l = L at *
          generalize isB x w = q1 at *
          generalize isB x (w ++ [101]) = q2 at *
          unfold bdD
          cases q1 <;> cases q2
          case false.false => cases hw1
          all_goals
            refine spec_of Tryz.func79 rfl rfl rfl (by kernel_rfl) rfl fun K => ?_
            (repeat' (first | with_reducible (first | refine zA fun Kn hK => ?_ | refine zB (by kernel_rfl) ?_ | refine Nx.go ?_ | go_step) | (refine ⟨_, h1, ?_⟩) | (refine ⟨_, h2, ?_⟩) | with_reducible (first | refine zI ?_ | refine zJ ?_ | refine zK ?_ ?_ | refine zL ?_ ?_ | refine zR (by kernel_rfl) ?_) | simp (maxSteps := 9999999) (disch := omega) only [wq] | (with_reducible refine zM (fun hb => ?_) (fun hb => ?_) <;> (try simp only [hb])) | (with_reducible refine And.intro (by first | omega | (simp; done) | (simp; omega)) ?_) | simp (maxSteps := 9999999) (implicitDefEqProofs := false) only [go_sem, n0, n1, n1', d2, f0, m1, m1', m2, a0, a1, a3, dr, dl, dl2, bD, bytesD] | fail))
            all_goals rfl
    · have he : endT (x :: l) w = some (Bd.none, x :: l) := by unfold endT; dsimp only; rw [if_neg hw1]
      refine ⟨Bd.none, x :: l, fun p h => (by rw [he] at h; injection h with h; exact h.symm), .inl rfl, Nat.le_refl _, fun x hx => hx, ?_⟩
      rw [he]
      simp only [Bool.or_eq_true, not_or, Bool.not_eq_true] at hw1
      rw [hw1.1] at h1
      rw [hw1.2] at h2
      clear he hx p1
      generalize x :: l = L at *
      unfold bdD Bd.none
      refine spec_of Tryz.func79 rfl rfl rfl (by kernel_rfl) rfl fun K => ?_
      (repeat' (first | with_reducible (first | refine zA fun Kn hK => ?_ | refine zB (by kernel_rfl) ?_ | refine Nx.go ?_ | go_step) | (refine ⟨_, h1, ?_⟩) | (refine ⟨_, h2, ?_⟩) | with_reducible (first | refine zI ?_ | refine zJ ?_ | refine zK ?_ ?_ | refine zL ?_ ?_ | refine zR (by kernel_rfl) ?_) | simp (maxSteps := 9999999) (disch := omega) only [wq] | (with_reducible refine zM (fun hb => ?_) (fun hb => ?_) <;> (try simp only [hb])) | (with_reducible refine And.intro (by first | omega | (simp; done) | (simp; omega)) ?_) | simp (maxSteps := 9999999) (implicitDefEqProofs := false) only [go_sem, n0, n1, n1', f0, bD, bytesD] | fail))
      all_goals rfl
end
end Go.Proofs.YtbeghpkkpnbkgaaGreatDoor
/- Tags: the program's right, nodes, values, May, Put. -/
namespace Go.Proofs.YtbeghpkkpnbkgaaGreatDoor
open Go.RowKit
theorem any_not {α : Type} (q : α → Bool) (l : List α) : (!l.any fun x => !q x) = l.all q := by
  induction l with
  | nil => rfl
  | cons x l ih => rw [List.any_cons, List.all_cons, ← ih]; cases q x <;> simp
/-- How many tags there are, as far as they are counted. -/
def nodesP (t : Tg) (m : Nat) : Nat := t.kids.attach.foldl (fun n x => if m < n then n else n + nodesP x.1 (m - n)) 1
termination_by SizeOf.sizeOf t
decreasing_by exact Tg.kid_lt x.2
theorem nodesP_eq (t : Tg) (m : Nat) : nodesP t m = t.kids.foldl (fun n x => if m < n then n else n + nodesP x (m - n)) 1 := by
  rw [nodesP]
  simp
theorem fold_stop {α : Type} {m : Nat} {f : α → Nat → Nat} : ∀ (l : List α) (n : Nat), m < n → l.foldl (fun n x => if m < n then n else n + f x (m - n)) n = n
  | [], n, h => rfl
  | x :: l, n, h => by rw [List.foldl_cons, if_pos h]; exact fold_stop l n h
theorem fold_sum {α : Type} {m : Nat} {f : α → Nat → Nat} {g : α → Nat} : ∀ (l : List α) (n : Nat), (∀ x ∈ l, ∀ k, f x k ≤ g x ∧ (g x ≤ k → f x k = g x) ∧ (k < g x → k < f x k)) →
    (l.foldl (fun n x => if m < n then n else n + f x (m - n)) n ≤ n + (l.map g).sum) ∧ (n + (l.map g).sum ≤ m → l.foldl (fun n x => if m < n then n else n + f x (m - n)) n = n + (l.map g).sum) ∧ (m < n + (l.map g).sum → m < l.foldl (fun n x => if m < n then n else n + f x (m - n)) n)
  | [], n, _ => by simp
  | x :: l, n, h => by
    rw [List.foldl_cons, List.map_cons, List.sum_cons]
    by_cases hn : m < n
    · rw [if_pos hn, fold_stop l n hn]
      omega
    · rw [if_neg hn]
      have h0 := h x (by simp) (m - n)
      have ih := fold_sum (m := m) (f := f) l (n + f x (m - n)) fun y hy => h y (by simp [hy])
      omega
theorem nodesP_ok : ∀ (t : Tg) (m : Nat), nodesP t m ≤ t.nodes ∧ (t.nodes ≤ m → nodesP t m = t.nodes) ∧ (m < t.nodes → m < nodesP t m) := by
  refine Tg.ind fun t ih m => ?_
  rw [nodesP_eq, Tg.nodes_eq]
  exact fold_sum t.kids 1 fun x hx k => ih x hx k
section
variable {G : Nat → Option (List D)}
theorem pnodes_m : ∀ t : Tg, ∀ (cs : List D) (m : Nat), tagC t = cs → t.wt ≤ 1000000000 → m ≤ 1000000 → Spec Tryz.prog G 46 [.g cs, .c (.v (.int .i64 m))] (.one (.c (.v (.int .i64 (nodesP t m))))) := Tg.ind fun t ih cs m hcs hw hm => by
  subst hcs
  refine spec_of Tryz.func46 rfl rfl rfl (by kernel_rfl) rfl fun K => ?_
  rw [tagC_eq]
  (repeat' (first | with_reducible (first | refine zA fun Kn hK => ?_ | refine zB (by kernel_rfl) ?_ | refine Nx.go ?_ | go_step) | fail | with_reducible (first | refine zI ?_ | refine zJ ?_ | refine zK ?_ ?_ | refine zL ?_ ?_ | refine zR (by kernel_rfl) ?_) | simp (maxSteps := 9999999) (disch := omega) only [wq] | (with_reducible refine zM (fun hb => ?_) (fun hb => ?_) <;> (try simp only [hb])) | (with_reducible refine And.intro (by first | omega | (simp; done) | (simp; omega)) ?_) | simp (maxSteps := 9999999) (implicitDefEqProofs := false) only [go_sem, true_and, bD] | fail))
  refine sound_loopR (fun x : {k : Nat // k ≤ t.kids.length} => ⟨[(1, vI m), (5, vI ((t.kids.take x.1).foldl (fun n x => if m < n then n else n + nodesP x (m - n)) 1 : Nat)), (9, vD (.sl t.kids.length (t.kids.flatMap tagC))), (10, vI t.kids.length), (11, vI x.1)], []⟩) (fun x => t.kids.length - x.1) ⟨0, by omega⟩ [] (by (iterate 2 ((try simp (maxSteps := 9999999) (implicitDefEqProofs := false) only [go_sem, true_and]); (try simp (maxSteps := 9999999) (disch := omega) only [wq]))); try simp) (fun ⟨k, hk⟩ => ?_)
  by_cases hlt : k < t.kids.length
  · obtain ⟨x, hx⟩ : ∃ x, t.kids[k]? = some x := ⟨_, List.getElem?_eq_getElem hlt⟩
    have h5 := t.wt_kids
    have hb : decide ((k : Int) < (t.kids.length : Int)) = true := by simpa using hlt
    have hs : (t.kids.take (k + 1)).foldl (fun n x => if m < n then n else n + nodesP x (m - n)) 1 = if m < (t.kids.take k).foldl (fun n x => if m < n then n else n + nodesP x (m - n)) 1 then (t.kids.take k).foldl (fun n x => if m < n then n else n + nodesP x (m - n)) 1 else (t.kids.take k).foldl (fun n x => if m < n then n else n + nodesP x (m - n)) 1 + nodesP x (m - (t.kids.take k).foldl (fun n x => if m < n then n else n + nodesP x (m - n)) 1) := by
      rw [List.take_add_one, hx, List.foldl_append]
      rfl
    have hbn := (nodesP_ok x (m - (t.kids.take k).foldl (fun n x => if m < n then n else n + nodesP x (m - n)) 1)).1
    have hxw := Tg.nodes_wt x
    have hxk := Tg.wt_kid (List.mem_of_getElem? hx)
    have hst : m < (t.kids.take k).foldl (fun n x => if m < n then n else n + nodesP x (m - n)) 1 → nodesP t m = (t.kids.take k).foldl (fun n x => if m < n then n else n + nodesP x (m - n)) 1 := fun h => by
      rw [nodesP_eq]
      conv => lhs; rw [← List.take_append_drop k t.kids, List.foldl_append]
      exact fold_stop _ _ h
    generalize (t.kids.take k).foldl (fun n x => if m < n then n else n + nodesP x (m - n)) 1 = n at *
    by_cases hn : m < n
    · have d : decide ((m : Int) < (n : Int)) = true := by simpa using hn
      (repeat' (first | with_reducible (first | refine zA fun Kn hK => ?_ | refine zB (by kernel_rfl) ?_ | refine Nx.go ?_ | go_step) | fail | with_reducible (first | refine zI ?_ | refine zJ ?_ | refine zK ?_ ?_ | refine zL ?_ ?_ | refine zR (by kernel_rfl) ?_) | simp (maxSteps := 9999999) (disch := omega) only [wq] | (with_reducible refine zM (fun hb => ?_) (fun hb => ?_) <;> (try simp only [hb])) | (with_reducible refine And.intro (by first | omega | (simp; done) | (simp; omega)) ?_) | simp (maxSteps := 9999999) (implicitDefEqProofs := false) only [go_sem, gt_iff_lt, hb, d, List.length_map, true_and, flat_at tagC_len hx] | fail))
      rw [hst hn]
    · have d : decide ((m : Int) < (n : Int)) = false := by simpa using hn
      have hc := ih x (List.mem_of_getElem? hx) _ (m - n) rfl (by omega) (by omega)
      have em : (m : Int) - (n : Int) = ((m - n : Nat) : Int) := by omega
      rw [if_neg hn] at hs
      (repeat' (first | with_reducible (first | refine zA fun Kn hK => ?_ | refine zB (by kernel_rfl) ?_ | refine Nx.go ?_ | go_step) | (refine ⟨_, hc, ?_⟩) | with_reducible (first | refine zI ?_ | refine zJ ?_ | refine zK ?_ ?_ | refine zL ?_ ?_ | refine zR (by kernel_rfl) ?_) | simp (maxSteps := 9999999) (disch := omega) only [wq] | (with_reducible refine zM (fun hb => ?_) (fun hb => ?_) <;> (try simp only [hb])) | (with_reducible refine And.intro (by first | omega | (simp; done) | (simp; omega)) ?_) | simp (maxSteps := 9999999) (implicitDefEqProofs := false) only [go_sem, gt_iff_lt, hb, d, em, List.length_map, true_and, flat_at tagC_len hx] | fail))
      refine ⟨[], ⟨k + 1, hlt⟩, ?_⟩
      rw [hs]
      (iterate 2 ((try simp (maxSteps := 9999999) (implicitDefEqProofs := false) only [go_sem, true_and]); (try simp (maxSteps := 9999999) (disch := omega) only [wq])))
      (simp only [ijq, true_and, and_true]; first | done | omega | (split <;> omega) | (simp; done) | (simp; omega))
  · have hb : decide ((k : Int) < (t.kids.length : Int)) = false := by simpa using hlt
    obtain rfl : k = t.kids.length := by omega
    rw [List.take_length, ← nodesP_eq]
    (repeat' (first | with_reducible (first | refine zA fun Kn hK => ?_ | refine zB (by kernel_rfl) ?_ | refine Nx.go ?_ | go_step) | fail | with_reducible (first | refine zI ?_ | refine zJ ?_ | refine zK ?_ ?_ | refine zL ?_ ?_ | refine zR (by kernel_rfl) ?_) | simp (maxSteps := 9999999) (disch := omega) only [wq] | (with_reducible refine zM (fun hb => ?_) (fun hb => ?_) <;> (try simp only [hb])) | (with_reducible refine And.intro (by first | omega | (simp; done) | (simp; omega)) ?_) | simp (maxSteps := 9999999) (implicitDefEqProofs := false) only [go_sem, hb] | fail))
theorem ordN_neq {x : Tg} : ((x.kind.toNat : Int) == 2) = decide (x.kind = 2) := by
  have : ((x.kind.toNat : Int) == ((2 : UInt8).toNat : Int)) = decide (x.kind = 2) := by rw [u8_beq]; exact Bool.beq_eq_decide_eq _ _
  exact this
theorem tright_m : ∀ t : Tg, ∀ (cs : List D) (k : Nat), tagC t = cs → t.wt ≤ 10000000 → k ≤ 18 → Spec Tryz.prog G 47 [.g cs, .c (.v (.int .i64 k))] (.one (.c (.v (.bool (t.rightD isV k))))) := Tg.ind fun t ih cs k hcs hw hk => by
  subst hcs
  have hb := blank_m (G := G) t rfl (by omega)
  have h5 := t.wt_kids
  have hc : k ≤ 17 → Spec Tryz.prog G 66 [.c (.sl t.kids.length (t.kids.flatMap tagC)), .c (.fn 67 [.ptr [.v (.int .i64 k)] 0])] (.one (.c (.v (.bool (t.kids.any fun x => !x.rightD isV (k + 1)))))) := fun hk7 => by
    refine containsFuncTag t.kids _ _ _ (by kernel_rfl) (by omega) fun x hx => ?_
    have hx' := ih x hx _ (k + 1) rfl (by have := Tg.wt_kid hx; omega) (by omega)
    rw [tagC_eq] at hx' ⊢
    unfold bD bytesD at *
    refine spec_of Tryz.func67 rfl rfl rfl (by kernel_rfl) rfl fun K => ?_
    (repeat' (first | with_reducible (first | refine zA fun Kn hK => ?_ | refine zB (by kernel_rfl) ?_ | refine Nx.go ?_ | go_step) | (refine ⟨_, hx', ?_⟩) | with_reducible (first | refine zI ?_ | refine zJ ?_ | refine zK ?_ ?_ | refine zL ?_ ?_ | refine zR (by kernel_rfl) ?_) | simp (maxSteps := 9999999) (disch := omega) only [wq] | (with_reducible refine zM (fun hb => ?_) (fun hb => ?_) <;> (try simp only [hb])) | (with_reducible refine And.intro (by first | omega | (simp; done) | (simp; omega)) ?_) | simp (maxSteps := 9999999) (implicitDefEqProofs := false) only [go_sem, List.map_cons] | fail))
  have dk : decide ((k : Int) > 17) = !decide (k ≤ 17) := by
    rw [← decide_not, decide_eq_decide]
    omega
  have e3 : ((t.kind.toNat : Int) == 3) = decide (t.kind = 3) := by
    have : ((t.kind.toNat : Int) == ((3 : UInt8).toNat : Int)) = decide (t.kind = 3) := by rw [u8_beq]; exact Bool.beq_eq_decide_eq _ _
    exact this
  rw [Tg.rightD_eq, Tg.ok, ← any_not]
  rw [tagC_eq] at hb ⊢
  have hst : t.starL = (decide (t.kind = 3) && headA t.kids) := rfl
  rw [hst]
  clear hst
  generalize (t.kids.any fun x => !x.rightD isV (k + 1)) = y at *
  unfold bD bytesD at *
  cases hbl : t.blank isV with
  | false =>
    rw [hbl] at hb
    refine spec_of Tryz.func47 rfl rfl rfl (by kernel_rfl) rfl fun K => ?_
    (repeat' (first | with_reducible (first | refine zA fun Kn hK => ?_ | refine zB (by kernel_rfl) ?_ | refine Nx.go ?_ | go_step) | (refine ⟨_, hb, ?_⟩) | with_reducible (first | refine zI ?_ | refine zJ ?_ | refine zK ?_ ?_ | refine zL ?_ ?_ | refine zR (by kernel_rfl) ?_) | simp (maxSteps := 9999999) (disch := omega) only [wq] | (with_reducible refine zM (fun hb => ?_) (fun hb => ?_) <;> (try simp only [hb])) | (with_reducible refine And.intro (by first | omega | (simp; done) | (simp; omega)) ?_) | simp (maxSteps := 9999999) (implicitDefEqProofs := false) only [go_sem, gt_iff_lt, Bool.false_and] | fail))
  | true =>
    rw [hbl] at hb
    by_cases hk7 : k ≤ 17
    · have hc := hc hk7
      rw [decide_eq_true hk7] at dk ⊢
      by_cases c3 : t.kind = 3
      · rw [decide_eq_true c3] at e3 ⊢
        by_cases hk0 : t.kids = []
        · have hh : headA t.kids = false := by rw [hk0]; rfl
          have ek : decide ((t.kids.length : Int) > 0) = false := by rw [hk0]; rfl
          rw [hh]
          clear hk0
          refine spec_of Tryz.func47 rfl rfl rfl (by kernel_rfl) rfl fun K => ?_
          (repeat' (first | with_reducible (first | refine zA fun Kn hK => ?_ | refine zB (by kernel_rfl) ?_ | refine Nx.go ?_ | go_step) | (refine ⟨_, hb, ?_⟩) | (refine ⟨_, hc, ?_⟩) | with_reducible (first | refine zI ?_ | refine zJ ?_ | refine zK ?_ ?_ | refine zL ?_ ?_ | refine zR (by kernel_rfl) ?_) | simp (maxSteps := 9999999) (disch := omega) only [wq] | (with_reducible refine zM (fun hb => ?_) (fun hb => ?_) <;> (try simp only [hb])) | (with_reducible refine And.intro (by first | omega | (simp; done) | (simp; omega)) ?_) | simp (maxSteps := 9999999) (implicitDefEqProofs := false) only [go_sem, dk, List.mapM_cons, List.mapM_nil, Option.bind_some, Option.pure_def, e3, ek, Bool.true_and] | fail))
          all_goals try rfl
        · obtain ⟨x, l, hkc⟩ := List.exists_cons_of_ne_nil hk0
          have hh : headA t.kids = (decide (x.kind = 2) && decide (x.data = wStar)) := by rw [hkc]; rfl
          have ek : decide ((t.kids.length : Int) > 0) = true := by rw [hkc, List.length_cons]; simp
          have hl : (0 : Int) < (t.kids.length : Int) := by rw [hkc, List.length_cons]; omega
          have hl2 : 0 < t.kids.length := by omega
          have hx : t.kids[0]? = some x := by rw [hkc]; rfl
          have f2 := ordN_neq (x := x)
          have f3 : (x.data == [42]) = decide (x.data = wStar) := Bool.beq_eq_decide_eq _ _
          clear hkc hk0
          rw [hh]
          have hF := flat_at (f := tagC) tagC_len hx
          simp only [Nat.zero_mul, List.drop_zero] at hF
          have kk : ∀ i, i < 10 → (t.kids.flatMap tagC)[i]? = (tagC x)[i]? := fun i hi => by rw [← hF, List.getElem?_take, if_pos hi]
          have g0 := kk 0 (by omega)
          have g1 := kk 1 (by omega)
          clear kk
          rw [tagC_eq] at g0 g1
          simp only [List.getElem?_cons_zero, List.getElem?_cons_succ, bD, bytesD] at g0 g1
          generalize decide (x.kind = 2) = y1 at *
          generalize decide (x.data = wStar) = y2 at *
          cases y1 <;> cases y2
          all_goals
            refine spec_of Tryz.func47 rfl rfl rfl (by kernel_rfl) rfl fun K => ?_
            (repeat' (first | with_reducible (first | refine zA fun Kn hK => ?_ | refine zB (by kernel_rfl) ?_ | refine Nx.go ?_ | go_step) | (refine ⟨_, hb, ?_⟩) | (refine ⟨_, hc, ?_⟩) | (refine ⟨x.data, ?_⟩) | with_reducible (first | refine zI ?_ | refine zJ ?_ | refine zK ?_ ?_ | refine zL ?_ ?_ | refine zR (by kernel_rfl) ?_) | simp (maxSteps := 9999999) (disch := omega) only [wq] | (with_reducible refine zM (fun hb => ?_) (fun hb => ?_) <;> (try simp only [hb])) | (with_reducible refine And.intro (by first | omega | (simp; done) | (simp; omega)) ?_) | simp (maxSteps := 9999999) (implicitDefEqProofs := false) only [go_sem, dk, List.mapM_cons, List.mapM_nil, Option.bind_some, Option.pure_def, e3, ek, hl, hl2, true_and, g0, g1, f2, f3, bD, decide_true, Bool.true_and] | fail))
            all_goals try rfl
      · rw [decide_eq_false c3] at e3 ⊢
        refine spec_of Tryz.func47 rfl rfl rfl (by kernel_rfl) rfl fun K => ?_
        (repeat' (first | with_reducible (first | refine zA fun Kn hK => ?_ | refine zB (by kernel_rfl) ?_ | refine Nx.go ?_ | go_step) | (refine ⟨_, hb, ?_⟩) | (refine ⟨_, hc, ?_⟩) | with_reducible (first | refine zI ?_ | refine zJ ?_ | refine zK ?_ ?_ | refine zL ?_ ?_ | refine zR (by kernel_rfl) ?_) | simp (maxSteps := 9999999) (disch := omega) only [wq] | (with_reducible refine zM (fun hb => ?_) (fun hb => ?_) <;> (try simp only [hb])) | (with_reducible refine And.intro (by first | omega | (simp; done) | (simp; omega)) ?_) | simp (maxSteps := 9999999) (implicitDefEqProofs := false) only [go_sem, dk, List.mapM_cons, List.mapM_nil, Option.bind_some, Option.pure_def, e3, Bool.true_and] | fail))
        all_goals try rfl
    · rw [decide_eq_false hk7] at dk ⊢
      refine spec_of Tryz.func47 rfl rfl rfl (by kernel_rfl) rfl fun K => ?_
      (repeat' (first | with_reducible (first | refine zA fun Kn hK => ?_ | refine zB (by kernel_rfl) ?_ | refine Nx.go ?_ | go_step) | (refine ⟨_, hb, ?_⟩) | with_reducible (first | refine zI ?_ | refine zJ ?_ | refine zK ?_ ?_ | refine zL ?_ ?_ | refine zR (by kernel_rfl) ?_) | simp (maxSteps := 9999999) (disch := omega) only [wq] | (with_reducible refine zM (fun hb => ?_) (fun hb => ?_) <;> (try simp only [hb])) | (with_reducible refine And.intro (by first | omega | (simp; done) | (simp; omega)) ?_) | simp (maxSteps := 9999999) (implicitDefEqProofs := false) only [go_sem, dk, List.mapM_cons, List.mapM_nil, Option.bind_some, Option.pure_def, Bool.true_and] | fail))
      all_goals simp
end
end Go.Proofs.YtbeghpkkpnbkgaaGreatDoor
/- The program's list of given values. -/
namespace Go.Proofs.YtbeghpkkpnbkgaaGreatDoor
open Go.RowKit
theorem list_m' {G : Nat → Option (List D)} (l : List Tree) {n : Nat} {cs : List D} (hn : n = l.length) (hc : cs = l.flatMap treeC) (hl : l.length ≤ 100000000) : Spec Tryz.prog G 23 [.c (.sl n cs)] (.one (.g (treeC (listT l)))) := by
  subst hn hc
  exact list_m l hl
end Go.Proofs.YtbeghpkkpnbkgaaGreatDoor
/- Tags: the program's values, May, Put. -/
namespace Go.Proofs.YtbeghpkkpnbkgaaGreatDoor
open Go.RowKit
section
variable {G : Nat → Option (List D)}
def ordA : List D := [.v (.string ⟨#[]⟩), .v (.string ⟨#[97, 108, 112, 104, 97]⟩), .v (.string ⟨#[110, 117, 109, 101, 114, 105, 99]⟩), .v (.string ⟨#[116, 105, 109, 101]⟩), .v (.string ⟨#[98, 105, 110, 97, 114, 121]⟩), .v (.string ⟨#[100, 97, 116, 101]⟩)]
theorem names_m : Spec Tryz.prog G 63 [] (.one (.g ordA)) := by
  unfold ordA
  refine spec_of Tryz.func63 rfl rfl rfl (by kernel_rfl) rfl fun K => ?_
  (repeat' (first | with_reducible (first | refine zA fun Kn hK => ?_ | refine zB (by kernel_rfl) ?_ | refine Nx.go ?_ | go_step) | fail | with_reducible (first | refine zI ?_ | refine zJ ?_ | refine zK ?_ ?_ | refine zL ?_ ?_ | refine zR (by kernel_rfl) ?_) | simp (maxSteps := 9999999) (disch := omega) only [wq] | (with_reducible refine zM (fun hb => ?_) (fun hb => ?_) <;> (try simp only [hb])) | (with_reducible refine And.intro (by first | omega | (simp; done) | (simp; omega)) ?_) | simp (maxSteps := 9999999) (implicitDefEqProofs := false) only [go_sem, true_and] | fail))
theorem pbound_m (b : Bd) (w : List UInt8) (hw : w.length ≤ 1000000) (hb : b.txt.length ≤ 1000000000) : Spec Tryz.prog G 64 [.g (bdD b), .c (.v (.string ⟨w.toArray⟩))] (.one (.c (.sl (bdT b w).length ((bdT b w).flatMap treeC)))) := by
  obtain ⟨i, o, t⟩ := b
  have h1 := atom_m (G := G) w (by omega)
  have h2 := atom_m (G := G) (w ++ [101]) (by simp; omega)
  have h3 := bclone_m (G := G) t (by dsimp only at hb; omega)
  have e1 := treeC_mk false false [] w []
  have e2 := treeC_mk false false [] (w ++ [101]) []
  have e3 := treeC_mk false false [] t []
  unfold bdT bdD bD at *
  dsimp only at *
  cases i with
  | false =>
    refine spec_of Tryz.func64 rfl rfl rfl (by kernel_rfl) rfl fun K => ?_
    (repeat' (first | with_reducible (first | refine zA fun Kn hK => ?_ | refine zB (by kernel_rfl) ?_ | refine Nx.go ?_ | go_step) | fail | with_reducible (first | refine zI ?_ | refine zJ ?_ | refine zK ?_ ?_ | refine zL ?_ ?_ | refine zR (by kernel_rfl) ?_) | simp (maxSteps := 9999999) (disch := omega) only [wq] | (with_reducible refine zM (fun hb => ?_) (fun hb => ?_) <;> (try simp only [hb])) | (with_reducible refine And.intro (by first | omega | (simp; done) | (simp; omega)) ?_) | simp (maxSteps := 9999999) (implicitDefEqProofs := false) only [go_sem, ] | fail))
    all_goals rfl
  | true =>
    cases o with
    | false =>
      refine spec_of Tryz.func64 rfl rfl rfl (by kernel_rfl) rfl fun K => ?_
      (repeat' (first | with_reducible (first | refine zA fun Kn hK => ?_ | refine zB (by kernel_rfl) ?_ | refine Nx.go ?_ | go_step) | (refine ⟨_, h2, ?_⟩) | (refine ⟨_, h3, ?_⟩) | with_reducible (first | refine zI ?_ | refine zJ ?_ | refine zK ?_ ?_ | refine zL ?_ ?_ | refine zR (by kernel_rfl) ?_) | simp (maxSteps := 9999999) (disch := omega) only [wq] | (with_reducible refine zM (fun hb => ?_) (fun hb => ?_) <;> (try simp only [hb])) | (with_reducible refine And.intro (by first | omega | (simp; done) | (simp; omega)) ?_) | simp (maxSteps := 9999999) (implicitDefEqProofs := false) only [go_sem, atomT, e1, e2, e3] | fail))
      simp only [List.flatMap_cons, List.flatMap_nil, atomT, treeC_mk, List.cons_append, List.nil_append]
      rfl
    | true =>
      refine spec_of Tryz.func64 rfl rfl rfl (by kernel_rfl) rfl fun K => ?_
      (repeat' (first | with_reducible (first | refine zA fun Kn hK => ?_ | refine zB (by kernel_rfl) ?_ | refine Nx.go ?_ | go_step) | (refine ⟨_, h1, ?_⟩) | (refine ⟨_, h3, ?_⟩) | with_reducible (first | refine zI ?_ | refine zJ ?_ | refine zK ?_ ?_ | refine zL ?_ ?_ | refine zR (by kernel_rfl) ?_) | simp (maxSteps := 9999999) (disch := omega) only [wq] | (with_reducible refine zM (fun hb => ?_) (fun hb => ?_) <;> (try simp only [hb])) | (with_reducible refine And.intro (by first | omega | (simp; done) | (simp; omega)) ?_) | simp (maxSteps := 9999999) (implicitDefEqProofs := false) only [go_sem, atomT, e1, e2, e3] | fail))
      simp only [List.flatMap_cons, List.flatMap_nil, atomT, treeC_mk, List.cons_append, List.nil_append]
      rfl
theorem ord_at {o : UInt8} (h : 1 ≤ o.toNat ∧ o.toNat ≤ 5) : ordA[o.toNat]? = some (.v (.string ⟨(ordN o).toArray⟩)) := by
  unfold ordN
  generalize o.toNat = n at *
  match n, h with
  | 1, _ | 2, _ | 3, _ | 4, _ | 5, _ => rfl
theorem value12_m : ∀ t : Tg, ∀ cs : List D, tagC t = cs → t.wt ≤ 10000000 → t.right isV = true → Spec Tryz.prog G 45 [.g cs] (.one (.g (treeC t.val))) := Tg.ind fun t ih cs hcs hw hr => by
  subst hcs
  have hstar := atom_m (G := G) wStar (by decide)
  have hset := atom_m (G := G) wSet (by decide)
  have hpre := atom_m (G := G) wPrefix (by decide)
  have hrng := atom_m (G := G) wRange (by decide)
  have hnames := names_m (G := G)
  have hcl := bclone_m (G := G) t.data (by rw [t.wt_eq] at hw; omega)
  unfold wStar wSet wPrefix wRange at *
  unfold bytesD at hcl
  have key : ∀ k : UInt8, ((t.kind.toNat : Int) == (k.toNat : Int)) = decide (t.kind = k) := fun k => by rw [u8_beq]; exact Bool.beq_eq_decide_eq _ _
  have e1 : ((t.kind.toNat : Int) == 1) = decide (t.kind = 1) := key 1
  have e2 : ((t.kind.toNat : Int) == 2) = decide (t.kind = 2) := key 2
  have e4 : ((t.kind.toNat : Int) == 4) = decide (t.kind = 4) := key 4
  have e5 : ((t.kind.toNat : Int) == 5) = decide (t.kind = 5) := key 5
  have e6 : ((t.kind.toNat : Int) == 6) = decide (t.kind = 6) := key 6
  clear key
  have hv := t.val_eq
  by_cases c1 : t.kind = 1
  · have c2 : t.kind ≠ 2 := by rw [c1]; decide
    rw [if_pos c1] at hv
    rw [decide_eq_true c1] at e1
    rw [decide_eq_false c2] at e2
    rw [hv, tagC_eq]
    refine spec_of Tryz.func45 rfl rfl rfl (by kernel_rfl) rfl fun K => ?_
    (repeat' (first | with_reducible (first | refine zA fun Kn hK => ?_ | refine zB (by kernel_rfl) ?_ | refine Nx.go ?_ | go_step) | (refine ⟨none, ?_⟩) | (refine ⟨_, hstar, ?_⟩) | (refine ⟨_, list_m' [atomT wStar] (by rfl) (by first | (simp only [atomT, listT, List.flatMap_cons, List.flatMap_nil, treeC_mk, bytesD, List.cons_append, List.nil_append, List.length_cons, List.length_nil, List.map_nil, Nat.reduceAdd, List.append_nil]; done) | (simp only [atomT, listT, List.flatMap_cons, List.flatMap_nil, treeC_mk, bytesD, List.cons_append, List.nil_append, List.length_cons, List.length_nil, List.map_nil, Nat.reduceAdd, List.append_nil]; rfl)) (by simp), ?_⟩) | with_reducible (first | refine zI ?_ | refine zJ ?_ | refine zK ?_ ?_ | refine zL ?_ ?_ | refine zR (by kernel_rfl) ?_) | simp (maxSteps := 9999999) (disch := omega) only [wq] | (with_reducible refine zM (fun hb => ?_) (fun hb => ?_) <;> (try simp only [hb])) | (with_reducible refine And.intro (by first | omega | (simp; done) | (simp; omega)) ?_) | simp (maxSteps := 9999999) (implicitDefEqProofs := false) only [go_sem, e1, e2, rep1, List.length_map, List.length_cons, List.length_nil, atomT, treeC_mk, bD, bytesD] | fail))
    all_goals simp only [listT, atomT, treeC_mk, List.flatMap_cons, List.flatMap_nil, List.cons_append, List.nil_append, bytesD]
    all_goals rfl
  rw [if_neg c1] at hv
  rw [decide_eq_false c1] at e1
  by_cases c2 : t.kind = 2
  · rw [if_pos c2] at hv
    rw [decide_eq_true c2] at e2
    rw [hv, tagC_eq]
    refine spec_of Tryz.func45 rfl rfl rfl (by kernel_rfl) rfl fun K => ?_
    (repeat' (first | with_reducible (first | refine zA fun Kn hK => ?_ | refine zB (by kernel_rfl) ?_ | refine Nx.go ?_ | go_step) | (refine ⟨_, hcl, ?_⟩) | with_reducible (first | refine zI ?_ | refine zJ ?_ | refine zK ?_ ?_ | refine zL ?_ ?_ | refine zR (by kernel_rfl) ?_) | simp (maxSteps := 9999999) (disch := omega) only [wq] | (with_reducible refine zM (fun hb => ?_) (fun hb => ?_) <;> (try simp only [hb])) | (with_reducible refine And.intro (by first | omega | (simp; done) | (simp; omega)) ?_) | simp (maxSteps := 9999999) (implicitDefEqProofs := false) only [go_sem, e1, e2, rep1, List.length_map, List.length_cons, List.length_nil, atomT, treeC_mk, bD, bytesD] | fail))
    all_goals simp only [listT, atomT, treeC_mk, List.flatMap_cons, List.flatMap_nil, List.cons_append, List.nil_append, bytesD]
    all_goals rfl
  rw [if_neg c2] at hv
  rw [decide_eq_false c2] at e2
  by_cases c5 : t.kind = 5
  · have c4 : t.kind ≠ 4 := by rw [c5]; decide
    rw [if_neg c4, if_pos c5] at hv
    rw [decide_eq_false c4] at e4
    rw [decide_eq_true c5] at e5
    rw [hv, tagC_eq]
    refine spec_of Tryz.func45 rfl rfl rfl (by kernel_rfl) rfl fun K => ?_
    (repeat' (first | with_reducible (first | refine zA fun Kn hK => ?_ | refine zB (by kernel_rfl) ?_ | refine Nx.go ?_ | go_step) | (refine ⟨none, ?_⟩) | (refine ⟨_, hstar, ?_⟩) | (refine ⟨_, hpre, ?_⟩) | (refine ⟨_, hcl, ?_⟩) | (refine ⟨_, list_m' [atomT wStar, atomT wPrefix, atomT t.data] (by rfl) (by first | (simp only [atomT, listT, List.flatMap_cons, List.flatMap_nil, treeC_mk, bytesD, List.cons_append, List.nil_append, List.length_cons, List.length_nil, List.map_nil, Nat.reduceAdd, List.append_nil]; done) | (simp only [atomT, listT, List.flatMap_cons, List.flatMap_nil, treeC_mk, bytesD, List.cons_append, List.nil_append, List.length_cons, List.length_nil, List.map_nil, Nat.reduceAdd, List.append_nil]; rfl)) (by simp), ?_⟩) | with_reducible (first | refine zI ?_ | refine zJ ?_ | refine zK ?_ ?_ | refine zL ?_ ?_ | refine zR (by kernel_rfl) ?_) | simp (maxSteps := 9999999) (disch := omega) only [wq] | (with_reducible refine zM (fun hb => ?_) (fun hb => ?_) <;> (try simp only [hb])) | (with_reducible refine And.intro (by first | omega | (simp; done) | (simp; omega)) ?_) | simp (maxSteps := 9999999) (implicitDefEqProofs := false) only [go_sem, e1, e2, e4, e5, List.length_map, List.length_cons, List.length_nil, atomT, treeC_mk, bD, bytesD] | fail))
    all_goals simp only [listT, atomT, treeC_mk, List.flatMap_cons, List.flatMap_nil, List.cons_append, List.nil_append, bytesD]
    all_goals rfl
  rw [if_neg c5] at hv
  rw [decide_eq_false c5] at e5
  have hrk : ∀ x ∈ t.kids, x.right isV = true := by
    have := hr
    rw [Tg.right_eq, Bool.and_eq_true, List.all_eq_true] at this
    exact this.2
  have h5 := t.wt_kids
  by_cases c3 : t.kind = 3
  · have c4 : t.kind ≠ 4 := by rw [c3]; decide
    have c6 : t.kind ≠ 6 := by rw [c3]; decide
    rw [if_neg c4, if_neg c6] at hv
    rw [decide_eq_false c4] at e4
    rw [decide_eq_false c6] at e6
    rw [hv, tagC_eq]
    have hlist := list_m (G := G) (t.kids.map Tg.val) (by rw [List.length_map]; omega)
    rw [List.flatMap_map, List.length_map] at hlist
    rw [show treeC (listT (t.kids.map Tg.val)) = treeC (.mk true false [] [] (t.kids.map Tg.val)) from rfl]
    have hL := treeC_eq (.mk true false [] [] (t.kids.map Tg.val))
    generalize treeC (.mk true false [] [] (t.kids.map Tg.val)) = O at *
    rw [hL] at hlist
    refine spec_of Tryz.func45 rfl rfl rfl (by kernel_rfl) rfl fun K => ?_
    (repeat' (first | with_reducible (first | refine zA fun Kn hK => ?_ | refine zB (by kernel_rfl) ?_ | refine Nx.go ?_ | go_step) | fail | with_reducible (first | refine zI ?_ | refine zJ ?_ | refine zK ?_ ?_ | refine zL ?_ ?_ | refine zR (by kernel_rfl) ?_) | simp (maxSteps := 9999999) (disch := omega) only [wq] | (with_reducible refine zM (fun hb => ?_) (fun hb => ?_) <;> (try simp only [hb])) | (with_reducible refine And.intro (by first | omega | (simp; done) | (simp; omega)) ?_) | simp (maxSteps := 9999999) (implicitDefEqProofs := false) only [go_sem, e1, e2, e4, e5, e6, atomT, treeC_mk, bD, bytesD] | fail))
    refine sound_void 3 1000 5 27 (by rfl) (by rfl) ?_
    refine sound_loopR (fun x : {k : Nat // k ≤ t.kids.length} => ⟨[(1, vP 1 0), (2, vP 2 0), (3, vR 1000 5 x.1), (59, vD (.sl t.kids.length (t.kids.flatMap tagC))), (60, vI t.kids.length), (61, vI x.1)], [(1, some ⟨34, tagK t, true, false⟩), (2, some ⟨27, zeroOf Tryz.prog 27, true, false⟩), (1000, some ⟨27, ((t.kids.take x.1).flatMap fun x => treeC x.val).map C.d, false, false⟩)]⟩) (fun x => t.kids.length - x.1) ⟨0, by omega⟩ [] (by (iterate 2 ((try simp (maxSteps := 9999999) (implicitDefEqProofs := false) only [go_sem, bD, AObj.trim, List.take_zero, List.flatMap_nil, List.map_nil]); (try simp (maxSteps := 9999999) (disch := omega) only [wq]))); try simp) (fun ⟨k, hk⟩ => ?_)
    by_cases hlt : k < t.kids.length
    · obtain ⟨x, hx⟩ : ∃ x, t.kids[k]? = some x := ⟨_, List.getElem?_eq_getElem hlt⟩
      have hb : decide ((k : Int) < (t.kids.length : Int)) = true := by simpa using hlt
      have hm := List.mem_of_getElem? hx
      have ht : (t.kids.take (k + 1)).flatMap (fun x => treeC x.val) = (t.kids.take k).flatMap (fun x => treeC x.val) ++ treeC x.val := by
        rw [List.take_add_one, hx, List.flatMap_append]
        simp
      have hlen : ((t.kids.take k).flatMap fun x => treeC x.val).length = k * 5 := by
        rw [show ((t.kids.take k).flatMap fun x => treeC x.val) = ((t.kids.take k).map Tg.val).flatMap treeC from by rw [List.flatMap_map], treeC_flen, List.length_map, List.length_take, Nat.min_eq_left hk]
      generalize (t.kids.take k).flatMap (fun x => treeC x.val) = W at *
      (repeat' (first | with_reducible (first | refine zA fun Kn hK => ?_ | refine zB (by kernel_rfl) ?_ | refine Nx.go ?_ | go_step) | (refine ⟨_, ih x hm _ rfl (by have := Tg.wt_kid hm; omega) (hrk x hm), ?_⟩) | with_reducible (first | refine zI ?_ | refine zJ ?_ | refine zK ?_ ?_ | refine zL ?_ ?_ | refine zR (by kernel_rfl) ?_) | simp (maxSteps := 9999999) (disch := omega) only [wq] | (with_reducible refine zM (fun hb => ?_) (fun hb => ?_) <;> (try simp only [hb])) | (with_reducible refine And.intro (by first | omega | (simp; done) | (simp; omega)) ?_) | simp (maxSteps := 9999999) (implicitDefEqProofs := false) only [go_sem, hb, rep1, hlen, List.length_map, true_and, Nat.le_refl, List.append_nil, flat_at tagC_len hx] | fail))
      refine ⟨[(1000, 69)], ⟨k + 1, hlt⟩, ?_⟩
      rw [ht]
      (iterate 2 ((try simp (maxSteps := 9999999) (implicitDefEqProofs := false) only [go_sem, bD]); (try simp (maxSteps := 9999999) (disch := omega) only [wq])))
      (simp only [ijq, true_and, and_true]; first | done | omega | (split <;> omega) | (simp; done) | (simp; omega))
    · have hb : decide ((k : Int) < (t.kids.length : Int)) = false := by simpa using hlt
      obtain rfl : k = t.kids.length := by omega
      rw [List.take_length]
      have hlen : (t.kids.flatMap fun x => treeC x.val).length = t.kids.length * 5 := by
        rw [show (t.kids.flatMap fun x => treeC x.val) = (t.kids.map Tg.val).flatMap treeC from by rw [List.flatMap_map], treeC_flen, List.length_map]
      (repeat' (first | with_reducible (first | refine zA fun Kn hK => ?_ | refine zB (by kernel_rfl) ?_ | refine Nx.go ?_ | go_step) | (refine ⟨none, ?_⟩) | (refine ⟨_, hlist, ?_⟩) | with_reducible (first | refine zI ?_ | refine zJ ?_ | refine zK ?_ ?_ | refine zL ?_ ?_ | refine zR (by kernel_rfl) ?_) | simp (maxSteps := 9999999) (disch := omega) only [wq] | (with_reducible refine zM (fun hb => ?_) (fun hb => ?_) <;> (try simp only [hb])) | (with_reducible refine And.intro (by first | omega | (simp; done) | (simp; omega)) ?_) | simp (maxSteps := 9999999) (implicitDefEqProofs := false) only [go_sem, hb, hlen, bD, List.length_map] | fail))
      all_goals (rw [hL]; try rfl)
  by_cases c4 : t.kind = 4
  · have c6 : t.kind ≠ 6 := by rw [c4]; decide
    rw [if_pos c4] at hv
    rw [decide_eq_true c4] at e4
    rw [decide_eq_false c6] at e6
    rw [hv, tagC_eq]
    have hlist := list_m (G := G) (atomT wStar :: atomT wSet :: t.kids.map Tg.val) (by rw [List.length_cons, List.length_cons, List.length_map]; omega)
    rw [show treeC (listT (atomT wStar :: atomT wSet :: t.kids.map Tg.val)) = treeC (.mk true false [] [] (atomT wStar :: atomT wSet :: t.kids.map Tg.val)) from rfl]
    have hL := treeC_eq (.mk true false [] [] (atomT wStar :: atomT wSet :: t.kids.map Tg.val))
    generalize treeC (.mk true false [] [] (atomT wStar :: atomT wSet :: t.kids.map Tg.val)) = O at *
    rw [hL] at hlist
    rw [List.flatMap_cons, List.flatMap_cons, List.flatMap_map, ← List.append_assoc, List.length_cons, List.length_cons, List.length_map, show t.kids.length + 1 + 1 = 2 + t.kids.length by omega] at hlist
    obtain ⟨T, hT⟩ : ∃ T, T = treeC (atomT wStar) ++ treeC (atomT wSet) := ⟨_, rfl⟩
    have hTl : T.length = 10 := by rw [hT, List.length_append, treeC_len, treeC_len]
    rw [← hT] at hlist
    refine spec_of Tryz.func45 rfl rfl rfl (by kernel_rfl) rfl fun K => ?_
    (repeat' (first | with_reducible (first | refine zA fun Kn hK => ?_ | refine zB (by kernel_rfl) ?_ | refine Nx.go ?_ | go_step) | (refine ⟨none, ?_⟩) | (refine ⟨_, hstar, ?_⟩) | (refine ⟨_, hset, ?_⟩) | with_reducible (first | refine zI ?_ | refine zJ ?_ | refine zK ?_ ?_ | refine zL ?_ ?_ | refine zR (by kernel_rfl) ?_) | simp (maxSteps := 9999999) (disch := omega) only [wq] | (with_reducible refine zM (fun hb => ?_) (fun hb => ?_) <;> (try simp only [hb])) | (with_reducible refine And.intro (by first | omega | (simp; done) | (simp; omega)) ?_) | simp (maxSteps := 9999999) (implicitDefEqProofs := false) only [go_sem, e1, e2, e4, e5, e6, atomT, treeC_mk, bD, bytesD] | fail))
    refine sound_grow 3 57 5 2 2 (by rfl) (by rfl) (by rfl) (by rfl) ?_
    refine sound_trim 57 10 (by rfl) ?_
    refine sound_loopR (fun x : {k : Nat // k ≤ t.kids.length} => ⟨[(1, vP 1 0), (2, vP 2 0), (3, vR 1000 5 (2 + x.1)), (59, vD (.sl t.kids.length (t.kids.flatMap tagC))), (60, vI t.kids.length), (61, vI x.1)], [(1, some ⟨34, tagK t, true, false⟩), (2, some ⟨27, zeroOf Tryz.prog 27, true, false⟩), (1000, some ⟨27, (T ++ (t.kids.take x.1).flatMap fun x => treeC x.val).map C.d, false, false⟩)]⟩) (fun x => t.kids.length - x.1) ⟨0, by omega⟩ [(1000, 57)] (by (iterate 2 ((try simp (maxSteps := 9999999) (implicitDefEqProofs := false) only [go_sem, bD, AObj.trim, List.take_zero, List.flatMap_nil, List.map_nil, List.append_nil]); (try simp (maxSteps := 9999999) (disch := omega) only [wq]))); refine ⟨rfl, ?_, by simp, by simp⟩; rw [hT, atomT, atomT, treeC_mk, treeC_mk]; rfl) (fun ⟨k, hk⟩ => ?_)
    by_cases hlt : k < t.kids.length
    · obtain ⟨x, hx⟩ : ∃ x, t.kids[k]? = some x := ⟨_, List.getElem?_eq_getElem hlt⟩
      have hb : decide ((k : Int) < (t.kids.length : Int)) = true := by simpa using hlt
      have hm := List.mem_of_getElem? hx
      have ht : T ++ (t.kids.take (k + 1)).flatMap (fun x => treeC x.val) = T ++ (t.kids.take k).flatMap (fun x => treeC x.val) ++ treeC x.val := by
        rw [List.take_add_one, hx, List.flatMap_append, List.append_assoc]
        simp
      have hlen : (T ++ (t.kids.take k).flatMap fun x => treeC x.val).length = (2 + k) * 5 := by
        rw [List.length_append, hTl, show ((t.kids.take k).flatMap fun x => treeC x.val) = ((t.kids.take k).map Tg.val).flatMap treeC from by rw [List.flatMap_map], treeC_flen, List.length_map, List.length_take, Nat.min_eq_left hk]
        omega
      generalize T ++ (t.kids.take k).flatMap (fun x => treeC x.val) = W at *
      (repeat' (first | with_reducible (first | refine zA fun Kn hK => ?_ | refine zB (by kernel_rfl) ?_ | refine Nx.go ?_ | go_step) | (refine ⟨_, ih x hm _ rfl (by have := Tg.wt_kid hm; omega) (hrk x hm), ?_⟩) | with_reducible (first | refine zI ?_ | refine zJ ?_ | refine zK ?_ ?_ | refine zL ?_ ?_ | refine zR (by kernel_rfl) ?_) | simp (maxSteps := 9999999) (disch := omega) only [wq] | (with_reducible refine zM (fun hb => ?_) (fun hb => ?_) <;> (try simp only [hb])) | (with_reducible refine And.intro (by first | omega | (simp; done) | (simp; omega)) ?_) | simp (maxSteps := 9999999) (implicitDefEqProofs := false) only [go_sem, hb, rep1, hlen, List.length_map, true_and, Nat.le_refl, List.append_nil, flat_at tagC_len hx] | fail))
      refine ⟨[(1000, 69)], ⟨k + 1, hlt⟩, ?_⟩
      rw [ht]
      (iterate 2 ((try simp (maxSteps := 9999999) (implicitDefEqProofs := false) only [go_sem, bD]); (try simp (maxSteps := 9999999) (disch := omega) only [wq])))
      (simp only [ijq, true_and, and_true]; first | done | omega | (split <;> omega) | (simp; done) | (simp; omega))
    · have hb : decide ((k : Int) < (t.kids.length : Int)) = false := by simpa using hlt
      obtain rfl : k = t.kids.length := by omega
      rw [List.take_length]
      have hlen : (T ++ t.kids.flatMap fun x => treeC x.val).length = (2 + t.kids.length) * 5 := by
        rw [List.length_append, hTl, show (t.kids.flatMap fun x => treeC x.val) = (t.kids.map Tg.val).flatMap treeC from by rw [List.flatMap_map], treeC_flen, List.length_map]
        omega
      generalize T ++ t.kids.flatMap (fun x => treeC x.val) = W at *
      (repeat' (first | with_reducible (first | refine zA fun Kn hK => ?_ | refine zB (by kernel_rfl) ?_ | refine Nx.go ?_ | go_step) | (refine ⟨none, ?_⟩) | (refine ⟨_, hlist, ?_⟩) | with_reducible (first | refine zI ?_ | refine zJ ?_ | refine zK ?_ ?_ | refine zL ?_ ?_ | refine zR (by kernel_rfl) ?_) | simp (maxSteps := 9999999) (disch := omega) only [wq] | (with_reducible refine zM (fun hb => ?_) (fun hb => ?_) <;> (try simp only [hb])) | (with_reducible refine And.intro (by first | omega | (simp; done) | (simp; omega)) ?_) | simp (maxSteps := 9999999) (implicitDefEqProofs := false) only [go_sem, hb, hlen, bD, List.length_map] | fail))
      all_goals (rw [hL]; try rfl)
  rw [if_neg c4] at hv
  rw [decide_eq_false c4] at e4
  have hok : t.ok isV = true := by
    have := hr
    rw [Tg.right_eq, Bool.and_eq_true] at this
    exact this.1
  by_cases c6 : t.kind = 6
  · rw [if_pos c6] at hv
    rw [decide_eq_true c6] at e6
    have hmr : mayR isV t.ord t.lo t.hi = true := by
      simp [Tg.ok, Tg.blank, c6] at hok
      exact hok.1.1
    have ho : 1 ≤ t.ord.toNat ∧ t.ord.toNat ≤ 5 := by
      rw [mayR, Bool.and_eq_true, decide_eq_true_eq] at hmr
      exact hmr.1
    have hoa : (ordA.map C.d)[t.ord.toNat]? = some (.d (.v (.string ⟨(ordN t.ord).toArray⟩))) := by rw [List.getElem?_map, ord_at ho]; rfl
    have hol : (0 ≤ (t.ord.toNat : Int) ∧ (t.ord.toNat : Int) < ((6 : Nat) : Int) ∧ t.ord.toNat + 1 ≤ ordA.length) := ⟨by omega, by omega, by rw [show ordA.length = 6 from rfl]; omega⟩
    have hon := atom_m (G := G) (ordN t.ord) (by have := ordN_len t.ord; omega)
    have hlo := pbound_m (G := G) t.lo [103] (by decide) (by rw [t.wt_eq] at hw; omega)
    have hhi := pbound_m (G := G) t.hi [108] (by decide) (by rw [t.wt_eq] at hw; omega)
    rw [hv, tagC_eq]
    rw [show treeC (listT (atomT wStar :: atomT wRange :: atomT (ordN t.ord) :: (bdT t.lo wG ++ bdT t.hi wL))) = treeC (.mk true false [] [] (atomT wStar :: atomT wRange :: atomT (ordN t.ord) :: (bdT t.lo wG ++ bdT t.hi wL))) from rfl]
    have hlist := list_m (G := G) (atomT wStar :: atomT wRange :: atomT (ordN t.ord) :: (bdT t.lo wG ++ bdT t.hi wL)) (by
      have hb2 : ∀ b w, (bdT b w).length ≤ 2 := fun b w => by unfold bdT; split <;> simp
      have n1 := hb2 t.lo wG
      have n2 := hb2 t.hi wL
      simp only [List.length_cons, List.length_append]
      omega)
    unfold wG wL at *
    have hL := treeC_eq (.mk true false [] [] (atomT wStar :: atomT wRange :: atomT (ordN t.ord) :: (bdT t.lo [103] ++ bdT t.hi [108])))
    generalize treeC (.mk true false [] [] (atomT wStar :: atomT wRange :: atomT (ordN t.ord) :: (bdT t.lo [103] ++ bdT t.hi [108]))) = O at *
    rw [hL] at hlist
    unfold bdD at hlo hhi
    have hb2 : ∀ b w, (bdT b w).length ≤ 2 := fun b w => by unfold bdT; split <;> simp
    have n1 := hb2 t.lo [103]
    have n2 := hb2 t.hi [108]
    clear hb2
    generalize bdT t.lo [103] = L1 at *
    generalize bdT t.hi [108] = L2 at *
    have hl3 : (atomT wStar :: atomT wRange :: atomT (ordN t.ord) :: (L1 ++ L2)).length = 3 + L1.length + L2.length := by
      simp only [List.length_cons, List.length_append]
      omega
    rw [hl3] at hlist
    simp only [List.flatMap_cons, List.flatMap_append, atomT, treeC_mk, List.cons_append, List.nil_append, wStar, wRange, bytesD] at hlist
    have s1 : (3 + L1.length) * 80 ≤ 140737488355328 := by omega
    have s2 : 3 + L1.length ≤ 9223372036854775807 := by omega
    have s3 : (3 + L1.length + L2.length) * 80 ≤ 140737488355328 := by omega
    have s4 : 3 + L1.length + L2.length ≤ 9223372036854775807 := by omega
    have z1 : (L1.flatMap treeC).length + 15 = (3 + L1.length) * 5 := by rw [treeC_flen]; omega
    have z2 : (L1.flatMap treeC).length + (L2.flatMap treeC).length + 15 = (3 + L1.length + L2.length) * 5 := by rw [treeC_flen, treeC_flen]; omega
    refine spec_of Tryz.func45 rfl rfl rfl (by kernel_rfl) rfl fun K => ?_
    (repeat' (first | with_reducible (first | refine zA fun Kn hK => ?_ | refine zB (by kernel_rfl) ?_ | refine Nx.go ?_ | go_step) | (refine ⟨none, ?_⟩) | (refine ⟨_, hnames, ?_⟩) | (refine ⟨_, hstar, ?_⟩) | (refine ⟨_, hrng, ?_⟩) | (refine ⟨_, hon, ?_⟩) | (refine ⟨_, hlo, ?_⟩) | (refine ⟨_, hhi, ?_⟩) | (refine ⟨_, hlist, ?_⟩) | with_reducible (first | refine zI ?_ | refine zJ ?_ | refine zK ?_ ?_ | refine zL ?_ ?_ | refine zR (by kernel_rfl) ?_) | simp (maxSteps := 9999999) (disch := omega) only [wq] | (with_reducible refine zM (fun hb => ?_) (fun hb => ?_) <;> (try simp only [hb])) | (with_reducible refine And.intro (by first | omega | (simp; done) | (simp; omega)) ?_) | simp (maxSteps := 9999999) (implicitDefEqProofs := false) only [go_sem, e1, e2, e4, e5, e6, s1, s2, s3, s4, z1, z2, hoa, hol, List.length_map, List.length_append, true_and, atomT, treeC_mk, bD, bytesD] | fail))
    all_goals (rw [hL]; try rfl)
    all_goals trace_state
  · exfalso
    simp [Tg.ok, Tg.blank, c1, c2, c3, c4, c5, c6] at hok
end
end Go.Proofs.YtbeghpkkpnbkgaaGreatDoor
/- Tags: what is wanted, atoms. -/
namespace Go.Proofs.YtbeghpkkpnbkgaaGreatDoor
open Go.RowKit
/-- What is thrown where a value is no tag. -/
def vNone : Value := .iface 56 (.agg #[])
theorem ni_none : nonIface Tryz.prog 56 = true := by kernel_rfl
@[go_sem] theorem bld_none : bldOk Tryz.prog 56 = false := by kernel_rfl
@[go_sem] theorem emp_none : emptyTy Tryz.prog 56 = true := by kernel_rfl
@[go_sem] theorem zero_none : zeroOf Tryz.prog 56 = [] := by kernel_rfl
section
variable {G : Nat → Option (List D)}
theorem want_t : Spec Tryz.prog G 32 [.c (.v (.bool true))] (.many []) := by
  refine spec_of Tryz.func32 rfl rfl rfl (by kernel_rfl) rfl fun K => ?_
  (repeat' (first | with_reducible (first | refine zA fun Kn hK => ?_ | refine zB (by kernel_rfl) ?_ | refine Nx.go ?_ | go_step) | fail | with_reducible (first | refine zI ?_ | refine zJ ?_ | refine zK ?_ ?_ | refine zL ?_ ?_ | refine zR (by kernel_rfl) ?_) | simp (maxSteps := 9999999) (disch := omega) only [wq] | (with_reducible refine zM (fun hb => ?_) (fun hb => ?_) <;> (try simp only [hb])) | (with_reducible refine And.intro (by first | omega | (simp; done) | (simp; omega)) ?_) | simp (maxSteps := 9999999) (implicitDefEqProofs := false) only [go_sem, ni_none, valsOf, Bool.not_true] | fail))
theorem want_f : Spec Tryz.prog G 32 [.c (.v (.bool false))] (.pan vNone) := by
  refine spec_of Tryz.func32 rfl rfl rfl (by kernel_rfl) rfl fun K => ?_
  (repeat' (first | with_reducible (first | refine zA fun Kn hK => ?_ | refine zB (by kernel_rfl) ?_ | refine Nx.go ?_ | go_step) | fail | with_reducible (first | refine zI ?_ | refine zJ ?_ | refine zK ?_ ?_ | refine zL ?_ ?_ | refine zR (by kernel_rfl) ?_) | simp (maxSteps := 9999999) (disch := omega) only [wq] | (with_reducible refine zM (fun hb => ?_) (fun hb => ?_) <;> (try simp only [hb])) | (with_reducible refine And.intro (by first | omega | (simp; done) | (simp; omega)) ?_) | simp (maxSteps := 9999999) (implicitDefEqProofs := false) only [go_sem, ni_none, valsOf, Bool.not_false] | fail))
  exact ⟨_, rfl, rfl⟩
end
end Go.Proofs.YtbeghpkkpnbkgaaGreatDoor
/- Tags: the program's May, Put; atoms, ends. -/
namespace Go.Proofs.YtbeghpkkpnbkgaaGreatDoor
open Go.RowKit
theorem tmay_eq (t : Tg) : (t.right isV && t.val.may) = (decide (t.nodes ≤ 512) && (t.rightD isV 1 && t.val.may)) := by
  cases hm : t.val.may with
  | false => simp
  | true =>
    rw [Bool.and_true, Bool.and_true]
    have hm' := hm
    simp only [Tree.may, Bool.and_eq_true, decide_eq_true_eq] at hm'
    obtain ⟨⟨⟨_, h2⟩, h3⟩, _⟩ := hm'
    cases hr : t.right isV with
    | true =>
      have h1 := val_nodes t hr
      rw [D_of_right t 1 hr (by omega) (by omega), decide_eq_true (by omega)]
      rfl
    | false =>
      cases hd : t.rightD isV 1 with
      | false => simp
      | true =>
        rw [right_of_D t 1 hd] at hr
        cases hr
def zeroC : List D := [.v (.bool false), .v (.bool false), .sl 0 [], .sl 0 [], .sl 0 []]
def tMay (t : Tg) : Bool := t.right isV && t.val.may
section
variable {G : Nat → Option (List D)}
theorem tmay_m (hG : G 2 = some powD) (t : Tg) {cs : List D} (hcs : tagC t = cs) (hw : t.wt ≤ 5000000) (hn : t.nodes ≤ 100000) : Spec Tryz.prog G 20 [.g cs] (.one (.c (.v (.bool (tMay t))))) := by
  subst hcs
  rw [tMay, tmay_eq]
  have h1 := pnodes_m (G := G) t _ 512 rfl (by omega) (by omega)
  have h2 := tright_m (G := G) t _ 1 rfl (by omega) (by omega)
  have hr := right_of_D (isV := isV) t 1
  have h3 := fun h => value12_m (G := G) t _ rfl (by omega) (hr h)
  have h4 := sxmay_m (G := G) hG t.val rfl (by have := val_wt t; omega)
  have hp := nodesP_ok t 512
  have e : decide ((nodesP t 512 : Int) ≤ 512) = decide (t.nodes ≤ 512) := by
    rw [decide_eq_decide]
    omega
  have ev := treeC_eq t.val
  generalize t.val.may = m at *
  generalize treeC t.val = T at *
  rw [ev] at h3 h4
  rw [tagC_eq] at h1 h2 h3 ⊢
  generalize nodesP t 512 = p at *
  unfold bD bytesD at *
  cases q1 : decide (t.nodes ≤ 512) with
  | false =>
    rw [q1] at e
    refine spec_of Tryz.func20 rfl rfl rfl (by kernel_rfl) rfl fun K => ?_
    (repeat' (first | with_reducible (first | refine zA fun Kn hK => ?_ | refine zB (by kernel_rfl) ?_ | refine Nx.go ?_ | go_step) | (refine ⟨_, h1, ?_⟩) | with_reducible (first | refine zI ?_ | refine zJ ?_ | refine zK ?_ ?_ | refine zL ?_ ?_ | refine zR (by kernel_rfl) ?_) | simp (maxSteps := 9999999) (disch := omega) only [wq] | (with_reducible refine zM (fun hb => ?_) (fun hb => ?_) <;> (try simp only [hb])) | (with_reducible refine And.intro (by first | omega | (simp; done) | (simp; omega)) ?_) | simp (maxSteps := 9999999) (implicitDefEqProofs := false) only [go_sem, e, Bool.false_and] | fail))
  | true =>
    rw [q1] at e
    cases q2 : t.rightD isV 1 with
    | false =>
      rw [q2] at h2
      refine spec_of Tryz.func20 rfl rfl rfl (by kernel_rfl) rfl fun K => ?_
      (repeat' (first | with_reducible (first | refine zA fun Kn hK => ?_ | refine zB (by kernel_rfl) ?_ | refine Nx.go ?_ | go_step) | (refine ⟨_, h1, ?_⟩) | (refine ⟨_, h2, ?_⟩) | with_reducible (first | refine zI ?_ | refine zJ ?_ | refine zK ?_ ?_ | refine zL ?_ ?_ | refine zR (by kernel_rfl) ?_) | simp (maxSteps := 9999999) (disch := omega) only [wq] | (with_reducible refine zM (fun hb => ?_) (fun hb => ?_) <;> (try simp only [hb])) | (with_reducible refine And.intro (by first | omega | (simp; done) | (simp; omega)) ?_) | simp (maxSteps := 9999999) (implicitDefEqProofs := false) only [go_sem, e, Bool.false_and, Bool.true_and] | fail))
    | true =>
      rw [q2] at h2
      have h3 := h3 q2
      refine spec_of Tryz.func20 rfl rfl rfl (by kernel_rfl) rfl fun K => ?_
      (repeat' (first | with_reducible (first | refine zA fun Kn hK => ?_ | refine zB (by kernel_rfl) ?_ | refine Nx.go ?_ | go_step) | (refine ⟨_, h1, ?_⟩) | (refine ⟨_, h2, ?_⟩) | (refine ⟨_, h3, ?_⟩) | (refine ⟨_, h4, ?_⟩) | with_reducible (first | refine zI ?_ | refine zJ ?_ | refine zK ?_ ?_ | refine zL ?_ ?_ | refine zR (by kernel_rfl) ?_) | simp (maxSteps := 9999999) (disch := omega) only [wq] | (with_reducible refine zM (fun hb => ?_) (fun hb => ?_) <;> (try simp only [hb])) | (with_reducible refine And.intro (by first | omega | (simp; done) | (simp; omega)) ?_) | simp (maxSteps := 9999999) (implicitDefEqProofs := false) only [go_sem, e, Bool.true_and] | fail))
theorem tput_m (hG : G 2 = some powD) (t : Tg) {cs : List D} (hcs : tagC t = cs) (hw : t.wt ≤ 5000000) (hn : t.nodes ≤ 100000) : Spec Tryz.prog G 19 [.g cs] (if tMay t = true then .many [.g (treeC t.val), .c (.v (.int .i64 0))] else .many [.g zeroC, .c (.v (.int .i64 13))]) := by
  subst hcs
  have h1 := tmay_m hG t rfl hw hn
  have h2 : tMay t = true → Spec Tryz.prog G 45 [.g (tagC t)] (.one (.g (treeC t.val))) := fun h => by
    rw [tMay, Bool.and_eq_true] at h
    exact value12_m t _ rfl (by omega) h.1
  have ev := treeC_eq t.val
  generalize treeC t.val = T at *
  rw [ev] at h2 ⊢
  rw [tagC_eq] at h1 h2 ⊢
  unfold zeroC bD bytesD at *
  cases q : tMay t with
  | false =>
    rw [q] at h1
    rw [if_neg (by simp)]
    refine spec_of Tryz.func19 rfl rfl rfl (by kernel_rfl) rfl fun K => ?_
    (repeat' (first | with_reducible (first | refine zA fun Kn hK => ?_ | refine zB (by kernel_rfl) ?_ | refine Nx.go ?_ | go_step) | (refine ⟨_, h1, ?_⟩) | with_reducible (first | refine zI ?_ | refine zJ ?_ | refine zK ?_ ?_ | refine zL ?_ ?_ | refine zR (by kernel_rfl) ?_) | simp (maxSteps := 9999999) (disch := omega) only [wq] | (with_reducible refine zM (fun hb => ?_) (fun hb => ?_) <;> (try simp only [hb])) | (with_reducible refine And.intro (by first | omega | (simp; done) | (simp; omega)) ?_) | simp (maxSteps := 9999999) (implicitDefEqProofs := false) only [go_sem, true_and] | fail))
  | true =>
    rw [q] at h1
    have h2 := h2 q
    rw [if_pos rfl]
    refine spec_of Tryz.func19 rfl rfl rfl (by kernel_rfl) rfl fun K => ?_
    (repeat' (first | with_reducible (first | refine zA fun Kn hK => ?_ | refine zB (by kernel_rfl) ?_ | refine Nx.go ?_ | go_step) | (refine ⟨_, h1, ?_⟩) | (refine ⟨_, h2, ?_⟩) | with_reducible (first | refine zI ?_ | refine zJ ?_ | refine zK ?_ ?_ | refine zL ?_ ?_ | refine zR (by kernel_rfl) ?_) | simp (maxSteps := 9999999) (disch := omega) only [wq] | (with_reducible refine zM (fun hb => ?_) (fun hb => ?_) <;> (try simp only [hb])) | (with_reducible refine And.intro (by first | omega | (simp; done) | (simp; omega)) ?_) | simp (maxSteps := 9999999) (implicitDefEqProofs := false) only [go_sem, true_and] | fail))
theorem patom_y (v : Tree) {cs : List D} (hcs : treeC v = cs) (hw : v.data.length ≤ 1000000000) (hv : (v.list || v.hinted) = false) : Spec Tryz.prog G 55 [.g cs] (.one (.c (bytesD v.data))) := by
  subst hcs
  have hc := bclone_m (G := G) v.data (by omega)
  have ht := want_t (G := G)
  rw [Bool.or_eq_false_iff] at hv
  rw [treeC_eq, hv.1, hv.2]
  unfold bytesD at *
  refine spec_of Tryz.func55 rfl rfl rfl (by kernel_rfl) rfl fun K => ?_
  (repeat' (first | with_reducible (first | refine zA fun Kn hK => ?_ | refine zB (by kernel_rfl) ?_ | refine Nx.go ?_ | go_step) | (refine ⟨_, ht, ?_⟩) | (refine ⟨_, hc, ?_⟩) | with_reducible (first | refine zI ?_ | refine zJ ?_ | refine zK ?_ ?_ | refine zL ?_ ?_ | refine zR (by kernel_rfl) ?_) | simp (maxSteps := 9999999) (disch := omega) only [wq] | (with_reducible refine zM (fun hb => ?_) (fun hb => ?_) <;> (try simp only [hb])) | (with_reducible refine And.intro (by first | omega | (simp; done) | (simp; omega)) ?_) | simp (maxSteps := 9999999) (implicitDefEqProofs := false) only [go_sem, true_and] | fail))
theorem patom_n (v : Tree) {cs : List D} (hcs : treeC v = cs) (hv : (v.list || v.hinted) = true) : Spec Tryz.prog G 55 [.g cs] (.pan vNone) := by
  subst hcs
  have ht := want_f (G := G)
  rw [treeC_eq]
  generalize v.list = a at *
  generalize v.hinted = b at *
  cases a <;> cases b
  case false.false => cases hv
  all_goals
    refine spec_of Tryz.func55 rfl rfl rfl (by kernel_rfl) rfl fun K => ?_
    (repeat' (first | with_reducible (first | refine zA fun Kn hK => ?_ | refine zB (by kernel_rfl) ?_ | refine Nx.go ?_ | go_step) | (refine ⟨_, ht, ?_⟩) | with_reducible (first | refine zI ?_ | refine zJ ?_ | refine zK ?_ ?_ | refine zL ?_ ?_ | refine zR (by kernel_rfl) ?_) | simp (maxSteps := 9999999) (disch := omega) only [wq] | (with_reducible refine zM (fun hb => ?_) (fun hb => ?_) <;> (try simp only [hb])) | (with_reducible refine And.intro (by first | omega | (simp; done) | (simp; omega)) ?_) | simp (maxSteps := 9999999) (implicitDefEqProofs := false) only [go_sem, true_and] | fail))
    exact ⟨_, rfl, rfl⟩
end
end Go.Proofs.YtbeghpkkpnbkgaaGreatDoor
/- Tags: the program's ends. -/
namespace Go.Proofs.YtbeghpkkpnbkgaaGreatDoor
open Go.RowKit
theorem cat_e (w : List UInt8) : ByteArray.toList ((⟨w.toArray⟩ : ByteArray) ++ (⟨#[101]⟩ : ByteArray)) = w ++ [101] := by
  rw [show ((⟨w.toArray⟩ : ByteArray) ++ (⟨#[101]⟩ : ByteArray)) = ⟨(w ++ [101]).toArray⟩ from ByteArray.ext (by simp), ba_list]
section
variable {G : Nat → Option (List D)}
def endsO (o : Option (Bd × List Tree)) : DR := match o with
  | some (b, m) => .many [.g (bdD b), .c (.sl m.length (m.flatMap treeC))]
  | none => .pan vNone
theorem ends_m (l : List Tree) (w : List UInt8) (hw : w.length ≤ 1000) (hl : l.length ≤ 100000000) (hd : ∀ x ∈ l, x.data.length ≤ 1000000000) : Spec Tryz.prog G 84 [.c (.sl l.length (l.flatMap treeC)), .c (.v (.string ⟨w.toArray⟩))] (endsO (endP l w)) := by
  match l, hl, hd with
  | [], _, _ =>
    have z0 : (((([] : List Tree).length : Nat) : Int) == 0) = true := rfl
    have z1 : endP [] w = some (Bd.none, []) := rfl
    rw [z1, endsO]
    clear z1
    generalize ([] : List Tree) = L at *
    unfold bdD Bd.none
    refine spec_of Tryz.func84 rfl rfl rfl (by kernel_rfl) rfl fun K => ?_
    (repeat' (first | with_reducible (first | refine zA fun Kn hK => ?_ | refine zB (by kernel_rfl) ?_ | refine Nx.go ?_ | go_step) | fail | with_reducible (first | refine zI ?_ | refine zJ ?_ | refine zK ?_ ?_ | refine zL ?_ ?_ | refine zR (by kernel_rfl) ?_) | simp (maxSteps := 9999999) (disch := omega) only [wq] | (with_reducible refine zM (fun hb => ?_) (fun hb => ?_) <;> (try simp only [hb])) | (with_reducible refine And.intro (by first | omega | (simp; done) | (simp; omega)) ?_) | simp (maxSteps := 9999999) (implicitDefEqProofs := false) only [go_sem, z0, bD, bytesD] | fail))
    all_goals rfl
  | x :: l, hl, hd =>
    have hx : (x :: l)[0]? = some x := rfl
    have f0 := flat_at (f := treeC) treeC_len hx
    simp only [Nat.zero_mul, List.drop_zero] at f0
    have n0 : (((x :: l).length : Int) == 0) = false := by rw [beq_eq_false_iff_ne, List.length_cons]; omega
    have n1 : (0 : Int) < ((x :: l).length : Int) := by rw [List.length_cons]; omega
    have n1' : 0 < (x :: l).length := by rw [List.length_cons]; omega
    have ex := treeC_eq x
    cases hxb : x.list || x.hinted with
    | true =>
      have h1 := patom_n (G := G) x rfl hxb
      have z1 : endP (x :: l) w = none := by
        unfold endP
        dsimp only
        rw [if_pos hxb]
      rw [z1, endsO]
      clear z1
      generalize x :: l = L at *
      refine spec_of Tryz.func84 rfl rfl rfl (by kernel_rfl) rfl fun K => ?_
      (repeat' (first | with_reducible (first | refine zA fun Kn hK => ?_ | refine zB (by kernel_rfl) ?_ | refine Nx.go ?_ | go_step) | (refine ⟨_, h1, ?_⟩) | with_reducible (first | refine zI ?_ | refine zJ ?_ | refine zK ?_ ?_ | refine zL ?_ ?_ | refine zR (by kernel_rfl) ?_) | simp (maxSteps := 9999999) (disch := omega) only [wq] | (with_reducible refine zM (fun hb => ?_) (fun hb => ?_) <;> (try simp only [hb])) | (with_reducible refine And.intro (by first | omega | (simp; done) | (simp; omega)) ?_) | simp (maxSteps := 9999999) (implicitDefEqProofs := false) only [go_sem, n0, n1, n1', f0, bD, bytesD] | fail))
      exact ⟨_, rfl, rfl⟩
    | false =>
      have h1 := patom_y (G := G) x rfl (hd x (by simp)) hxb
      have z1 : endP (x :: l) w = endT (x :: l) w := by
        unfold endP
        dsimp only
        rw [if_neg (by rw [hxb]; simp)]
      have b1 := isB_yes hxb w
      have b2 := isB_yes hxb (w ++ [101])
      have ht := want_t (G := G)
      have hf := want_f (G := G)
      rw [z1]
      clear z1
      by_cases hw1 : (isB x w || isB x (w ++ [101])) = true
      · match l, hl, hd with
        | [], _, _ =>
          have he : endT [x] w = none := by rw [endT, if_pos hw1]
          rw [he, endsO]
          rw [b1, b2] at hw1
          have d2 : decide ((([x] : List Tree).length : Int) > 1) = false := rfl
          clear he b1 b2
          generalize [x] = L at *
          cases q1 : x.data == w <;> cases q2 : x.data == w ++ [101]
          case false.false => rw [q1, q2] at hw1; cases hw1
          all_goals
            refine spec_of Tryz.func84 rfl rfl rfl (by kernel_rfl) rfl fun K => ?_
            (repeat' (first | with_reducible (first | refine zA fun Kn hK => ?_ | refine zB (by kernel_rfl) ?_ | refine Nx.go ?_ | go_step) | (refine ⟨_, h1, ?_⟩) | (refine ⟨_, hf, ?_⟩) | with_reducible (first | refine zI ?_ | refine zJ ?_ | refine zK ?_ ?_ | refine zL ?_ ?_ | refine zR (by kernel_rfl) ?_) | simp (maxSteps := 9999999) (disch := omega) only [wq] | (with_reducible refine zM (fun hb => ?_) (fun hb => ?_) <;> (try simp only [hb])) | (with_reducible refine And.intro (by first | omega | (simp; done) | (simp; omega)) ?_) | simp (maxSteps := 9999999) (implicitDefEqProofs := false) only [go_sem, n0, n1, n1', d2, f0, q1, q2, cat_e, bD, bytesD] | fail))
            all_goals exact ⟨_, rfl, rfl⟩
        | y :: l, hl, hd =>
          have hy : (x :: y :: l)[1]? = some y := rfl
          have f1 := flat_at (f := treeC) treeC_len hy
          simp only [Nat.one_mul] at f1
          have d2 : decide ((((x :: y :: l) : List Tree).length : Int) > 1) = true := by rw [decide_eq_true_iff, List.length_cons, List.length_cons]; omega
          have m1 : (1 : Int) < ((x :: y :: l).length : Int) := by rw [List.length_cons, List.length_cons]; omega
          have m1' : 1 < (x :: y :: l).length := by rw [List.length_cons, List.length_cons]; omega
          have m2 : 2 ≤ (x :: y :: l).length := by rw [List.length_cons, List.length_cons]; omega
          have dr := flat_drop (f := treeC) treeC_len (x :: y :: l) 2
          have dl : (x :: y :: l).length - 2 = l.length := by simp
          have dl2 : (((x :: y :: l).length : Int) - 2) = (l.length : Int) := by rw [List.length_cons, List.length_cons]; omega
          have hdr : (x :: y :: l).drop 2 = l := rfl
          rw [hdr] at dr
          simp only [Nat.reduceMul] at dr
          cases hyb : y.list || y.hinted with
          | true =>
            have h2 := patom_n (G := G) y rfl hyb
            have he : endT (x :: y :: l) w = none := by
              rw [endT, if_pos hw1]
              rw [if_pos hyb]
            rw [he, endsO]
            rw [b1, b2] at hw1
            clear he b1 b2 hdr
            generalize x :: y :: l = L at *
            cases q1 : x.data == w <;> cases q2 : x.data == w ++ [101]
            case false.false => rw [q1, q2] at hw1; cases hw1
            all_goals
              refine spec_of Tryz.func84 rfl rfl rfl (by kernel_rfl) rfl fun K => ?_
              (repeat' (first | with_reducible (first | refine zA fun Kn hK => ?_ | refine zB (by kernel_rfl) ?_ | refine Nx.go ?_ | refine zO (by decide +kernel) ?_ | refine zP ?_ | go_step) | (refine ⟨_, h1, ?_⟩) | (refine ⟨_, ht, ?_⟩) | (refine ⟨_, h2, ?_⟩) | with_reducible (first | refine zI ?_ | refine zJ ?_ | refine zK ?_ ?_ | refine zL ?_ ?_ | refine zR (by kernel_rfl) ?_ | exact (show logOk _ _ = true by kernel_rfl)) | simp (maxSteps := 9999999) (disch := omega) only [wq] | (with_reducible refine zM (fun hb => ?_) (fun hb => ?_) <;> (try simp only [hb])) | (with_reducible refine And.intro (by first | omega | (simp; done) | (simp; omega)) ?_) | simp (maxSteps := 9999999) (implicitDefEqProofs := false) only [go_sem, n0, n1, n1', d2, f0, f1, m1, m1', m2, dr, dl, dl2, q1, q2, cat_e, bD, bytesD] | fail))
              all_goals (first | exact ⟨_, rfl, rfl⟩ | skip)
          | false =>
            have h2 := patom_y (G := G) y rfl (hd y (by simp)) hyb
            have he : endT (x :: y :: l) w = some (⟨true, isB x w, y.data⟩, l) := by
              rw [endT, if_pos hw1]
              rw [if_neg (by rw [hyb]; simp)]
            rw [he, endsO, b1]
            rw [b1, b2] at hw1
            clear he b1 b2 hdr
            generalize x :: y :: l = L at *
            unfold bdD
            cases q1 : x.data == w <;> cases q2 : x.data == w ++ [101]
            case false.false => rw [q1, q2] at hw1; cases hw1
            all_goals
              refine spec_of Tryz.func84 rfl rfl rfl (by kernel_rfl) rfl fun K => ?_
              (repeat' (first | with_reducible (first | refine zA fun Kn hK => ?_ | refine zB (by kernel_rfl) ?_ | refine Nx.go ?_ | refine zO (by decide +kernel) ?_ | refine zP ?_ | go_step) | (refine ⟨_, h1, ?_⟩) | (refine ⟨_, ht, ?_⟩) | (refine ⟨_, h2, ?_⟩) | with_reducible (first | refine zI ?_ | refine zJ ?_ | refine zK ?_ ?_ | refine zL ?_ ?_ | refine zR (by kernel_rfl) ?_ | exact (show logOk _ _ = true by kernel_rfl)) | simp (maxSteps := 9999999) (disch := omega) only [wq] | (with_reducible refine zM (fun hb => ?_) (fun hb => ?_) <;> (try simp only [hb])) | (with_reducible refine And.intro (by first | omega | (simp; done) | (simp; omega)) ?_) | simp (maxSteps := 9999999) (implicitDefEqProofs := false) only [go_sem, n0, n1, n1', d2, f0, f1, m1, m1', m2, dr, dl, dl2, q1, q2, cat_e, bD, bytesD] | fail))
              all_goals try rfl
      · have he : endT (x :: l) w = some (Bd.none, x :: l) := by unfold endT; dsimp only; rw [if_neg hw1]
        rw [he, endsO]
        simp only [Bool.or_eq_true, not_or, Bool.not_eq_true] at hw1
        rw [b1, b2] at hw1
        obtain ⟨q1, q2⟩ := hw1
        clear he b1 b2
        generalize x :: l = L at *
        unfold bdD Bd.none
        refine spec_of Tryz.func84 rfl rfl rfl (by kernel_rfl) rfl fun K => ?_
        (repeat' (first | with_reducible (first | refine zA fun Kn hK => ?_ | refine zB (by kernel_rfl) ?_ | refine Nx.go ?_ | go_step) | (refine ⟨_, h1, ?_⟩) | with_reducible (first | refine zI ?_ | refine zJ ?_ | refine zK ?_ ?_ | refine zL ?_ ?_ | refine zR (by kernel_rfl) ?_) | simp (maxSteps := 9999999) (disch := omega) only [wq] | (with_reducible refine zM (fun hb => ?_) (fun hb => ?_) <;> (try simp only [hb])) | (with_reducible refine And.intro (by first | omega | (simp; done) | (simp; omega)) ?_) | simp (maxSteps := 9999999) (implicitDefEqProofs := false) only [go_sem, n0, n1, n1', f0, q1, q2, cat_e, bD, bytesD] | fail))
        all_goals rfl
end
end Go.Proofs.YtbeghpkkpnbkgaaGreatDoor
/- Tags: the document's tag of a value. -/
namespace Go.Proofs.YtbeghpkkpnbkgaaGreatDoor
open Go.RowKit
/-- The first ones that are there. -/
def preS {α : Type} : List (Option α) → List α
  | some x :: l => x :: preS l
  | _ => []
theorem preS_len {α β : Type} {f : α → Option β} : ∀ {l : List α}, (preS (l.map f)).length ≤ l.length
  | [] => by simp [preS]
  | x :: l => by
    have := preS_len (f := f) (l := l)
    cases h : f x <;> simp [preS, h] <;> omega
theorem preS_step {α β : Type} {f : α → Option β} {y : β} : ∀ {l : List α} {k : Nat} {x : α}, k ≤ (preS (l.map f)).length → l[k]? = some x → f x = some y → (preS (l.map f))[k]? = some y
  | [], k, x, _, h, _ => by simp at h
  | a :: l, 0, x, hk, h, hf => by
    have h : a = x := by simpa using h
    subst h
    simp [preS, hf]
  | a :: l, k + 1, x, hk, h, hf => by
    have h : l[k]? = some x := by simpa using h
    cases ha : f a with
    | none => simp [preS, ha] at hk
    | some b =>
      simp only [List.map_cons, ha, preS, List.length_cons] at hk ⊢
      rw [List.getElem?_cons_succ]
      exact preS_step (by omega) h hf
theorem preS_stop {α β : Type} {f : α → Option β} : ∀ {l : List α} {k : Nat} {x : α}, k ≤ (preS (l.map f)).length → l[k]? = some x → f x = none → (preS (l.map f)).length = k ∧ allSome (l.map f) = none
  | [], k, x, _, h, _ => by simp at h
  | a :: l, 0, x, hk, h, hf => by
    have h : a = x := by simpa using h
    subst h
    simp [preS, hf, allSome]
  | a :: l, k + 1, x, hk, h, hf => by
    have h : l[k]? = some x := by simpa using h
    cases ha : f a with
    | none => simp [preS, ha] at hk
    | some b =>
      simp only [List.map_cons, ha, preS, List.length_cons] at hk ⊢
      obtain ⟨h1, h2⟩ := preS_stop (l := l) (k := k) (by omega) h hf
      exact ⟨by omega, by rw [allSome, h2]; rfl⟩
theorem preS_all {α β : Type} {f : α → Option β} : ∀ {l : List α}, l.length ≤ (preS (l.map f)).length → allSome (l.map f) = some (preS (l.map f))
  | [], _ => rfl
  | a :: l, hk => by
    cases ha : f a with
    | none => simp [preS, ha] at hk
    | some b =>
      simp only [List.map_cons, ha, preS, List.length_cons] at hk ⊢
      rw [allSome, preS_all (by omega)]
      rfl
theorem preS_of {α β : Type} {f : α → Option β} : ∀ {l : List α} {p : List β}, allSome (l.map f) = some p → p = preS (l.map f)
  | [], p, h => by
    simp [allSome] at h
    rw [h]
    rfl
  | a :: l, p, h => by
    cases ha : f a with
    | none => simp [ha, allSome] at h
    | some b =>
      simp only [List.map_cons, ha, allSome, Option.map_eq_some_iff] at h
      obtain ⟨q, hq, rfl⟩ := h
      simp only [List.map_cons, ha, preS, preS_of hq]
/-- What answers a tag, whatever it is where there is none. -/
structure TagR (G : Nat → Option (List D)) (f : FuncId) (arg : DV) (o : Option Tg) (u : Tg) : Prop where
  is : ∀ p, o = some p → p = u
  spec : Spec Tryz.prog G f [arg] (.many [.g (tagC u), .c (.v (.bool o.isSome))])
def zTg : Tg := .mk 0 [] [] 0 Bd.none Bd.none
theorem tagC_mk (k : UInt8) (d : List UInt8) (l : List Tg) (o : UInt8) (lo hi : Bd) : tagC (.mk k d l o lo hi) = [bD k, bytesD d, .sl l.length (l.flatMap tagC), bD o, .v (.bool lo.is), .v (.bool lo.opn), bytesD lo.txt, .v (.bool hi.is), .v (.bool hi.opn), bytesD hi.txt] := tagC_eq _
section
variable {G : Nat → Option (List D)}
theorem rtags12_w (f : Tree → Option Tg) (l : List Tree) (hl : l.length ≤ 100000000) (ih : ∀ x ∈ l, ∃ u, TagR G 48 (.g (treeC x)) (f x) u) :
    Spec Tryz.prog G 68 [.c (.sl l.length (l.flatMap treeC))] (.many [.c (.sl (preS (l.map f)).length ((preS (l.map f)).flatMap tagC)), .c (.v (.bool (allSome (l.map f)).isSome))]) := by
  have hP := preS_len (f := f) (l := l)
  have s1 : ∀ {k x y}, k ≤ (preS (l.map f)).length → l[k]? = some x → f x = some y → (preS (l.map f))[k]? = some y := preS_step
  have s2 : ∀ {k x}, k ≤ (preS (l.map f)).length → l[k]? = some x → f x = none → (preS (l.map f)).length = k ∧ allSome (l.map f) = none := preS_stop
  have s3 := preS_all (f := f) (l := l)
  generalize allSome (l.map f) = A at *
  generalize preS (l.map f) = P at *
  refine spec_of Tryz.func68 rfl rfl rfl (by kernel_rfl) rfl fun K => ?_
  (repeat' (first | with_reducible (first | refine zA fun Kn hK => ?_ | refine zB (by kernel_rfl) ?_ | refine Nx.go ?_ | go_step) | fail | with_reducible (first | refine zI ?_ | refine zJ ?_ | refine zK ?_ ?_ | refine zL ?_ ?_ | refine zR (by kernel_rfl) ?_) | simp (maxSteps := 9999999) (disch := omega) only [wq] | (with_reducible refine zM (fun hb => ?_) (fun hb => ?_) <;> (try simp only [hb])) | (with_reducible refine And.intro (by first | omega | (simp; done) | (simp; omega)) ?_) | simp (maxSteps := 9999999) (implicitDefEqProofs := false) only [go_sem, true_and] | fail))
  refine sound_grow 4 8 10 0 0 (by rfl) (by rfl) (by rfl) (by rfl) ?_
  refine sound_trim 8 0 (by rfl) ?_
  refine sound_loopR (fun x : {k : Nat // k ≤ l.length ∧ k ≤ P.length} => ⟨[(0, vD (.sl l.length (l.flatMap treeC))), (4, vR 1000 10 x.1), (10, vI l.length), (11, vI x.1)], [(1000, some ⟨34, ((P.take x.1).flatMap tagC).map C.d, false, false⟩)]⟩) (fun x => l.length - x.1) ⟨0, by omega⟩ [(1000, 8)] (by (iterate 2 ((try simp (maxSteps := 9999999) (implicitDefEqProofs := false) only [go_sem, AObj.trim, List.take_zero, List.flatMap_nil, List.map_nil]); (try simp (maxSteps := 9999999) (disch := omega) only [wq]))); try simp) (fun ⟨k, hk, hkP⟩ => ?_)
  by_cases hlt : k < l.length
  · obtain ⟨x, hx⟩ : ∃ x, l[k]? = some x := ⟨_, List.getElem?_eq_getElem hlt⟩
    have hb : decide ((k : Int) < (l.length : Int)) = true := by simpa using hlt
    obtain ⟨u, hu, hsp⟩ := ih x (List.mem_of_getElem? hx)
    have hlen : ((P.take k).flatMap tagC).length = k * 10 := by rw [tagC_flen, List.length_take, Nat.min_eq_left hkP]
    cases hf : f x with
    | none =>
      obtain ⟨e1, e2⟩ := s2 hkP hx hf
      rw [hf] at hsp
      rw [tagC_eq] at hsp
      subst e1
      rw [e2]
      rw [List.take_length] at hlen
      simp only [List.take_length]
      (repeat' (first | with_reducible (first | refine zA fun Kn hK => ?_ | refine zB (by kernel_rfl) ?_ | refine Nx.go ?_ | go_step) | (refine ⟨_, hsp, ?_⟩) | with_reducible (first | refine zI ?_ | refine zJ ?_ | refine zK ?_ ?_ | refine zL ?_ ?_ | refine zR (by kernel_rfl) ?_) | simp (maxSteps := 9999999) (disch := omega) only [wq] | (with_reducible refine zM (fun hb => ?_) (fun hb => ?_) <;> (try simp only [hb])) | (with_reducible refine And.intro (by first | omega | (simp; done) | (simp; omega)) ?_) | simp (maxSteps := 9999999) (implicitDefEqProofs := false) only [go_sem, hb, hlen, List.length_map, true_and, flat_at treeC_len hx, bD, bytesD, Option.isSome_none] | fail))
      try rfl
    | some t =>
      have hPk := s1 hkP hx hf
      obtain rfl := hu t hf
      rw [hf] at hsp
      have htt := tagC_eq t
      have ht : (P.take (k + 1)).flatMap tagC = (P.take k).flatMap tagC ++ tagC t := by
        rw [List.take_add_one, hPk, List.flatMap_append]
        simp
      rw [htt] at hsp ht
      generalize (P.take k).flatMap tagC = W at *
      (repeat' (first | with_reducible (first | refine zA fun Kn hK => ?_ | refine zB (by kernel_rfl) ?_ | refine Nx.go ?_ | go_step) | (refine ⟨_, hsp, ?_⟩) | with_reducible (first | refine zI ?_ | refine zJ ?_ | refine zK ?_ ?_ | refine zL ?_ ?_ | refine zR (by kernel_rfl) ?_) | simp (maxSteps := 9999999) (disch := omega) only [wq] | (with_reducible refine zM (fun hb => ?_) (fun hb => ?_) <;> (try simp only [hb])) | (with_reducible refine And.intro (by first | omega | (simp; done) | (simp; omega)) ?_) | simp (maxSteps := 9999999) (implicitDefEqProofs := false) only [go_sem, hb, rep1, hlen, List.length_map, true_and, Nat.le_refl, List.append_nil, flat_at treeC_len hx, bD, bytesD, Option.isSome_some] | fail))
      refine ⟨[(1000, 28)], ⟨k + 1, hlt, len_pos hPk⟩, ?_⟩
      rw [ht]
      (iterate 2 ((try simp (maxSteps := 9999999) (implicitDefEqProofs := false) only [go_sem, bD]); (try simp (maxSteps := 9999999) (disch := omega) only [wq])))
      (simp only [ijq, true_and, and_true]; first | done | omega | (split <;> omega) | (simp; done) | (simp; omega))
  · have hb : decide ((k : Int) < (l.length : Int)) = false := by simpa using hlt
    obtain rfl : k = l.length := by omega
    have hPl : P.length = l.length := by omega
    have hA := s3 hkP
    have hT : P.take l.length = P := by rw [← hPl, List.take_length]
    have hlen : (P.flatMap tagC).length = l.length * 10 := by rw [tagC_flen, hPl]
    simp only [hT]
    (repeat' (first | with_reducible (first | refine zA fun Kn hK => ?_ | refine zB (by kernel_rfl) ?_ | refine Nx.go ?_ | go_step) | fail | with_reducible (first | refine zI ?_ | refine zJ ?_ | refine zK ?_ ?_ | refine zL ?_ ?_ | refine zR (by kernel_rfl) ?_) | simp (maxSteps := 9999999) (disch := omega) only [wq] | (with_reducible refine zM (fun hb => ?_) (fun hb => ?_) <;> (try simp only [hb])) | (with_reducible refine And.intro (by first | omega | (simp; done) | (simp; omega)) ?_) | simp (maxSteps := 9999999) (implicitDefEqProofs := false) only [go_sem, hb, hlen, List.length_map, Option.isSome_some] | fail))
    rw [hA, hPl]
    rfl
end
end Go.Proofs.YtbeghpkkpnbkgaaGreatDoor
/- Tags: the program's ranges. -/
namespace Go.Proofs.YtbeghpkkpnbkgaaGreatDoor
open Go.RowKit
def strD (w : List UInt8) : D := .v (.string ⟨w.toArray⟩)
theorem str_at {ws : List (List UInt8)} {k : Nat} {w : List UInt8} (h : ws[k]? = some w) : (ws.map strD)[k]? = some (strD w) := by
  rw [List.getElem?_map, h]
  rfl
theorem findW_no {x : Tree} (h : (x.list || x.hinted) = true) : ∀ (ws : List (List UInt8)) (k : Nat), findW x ws k = none
  | [], _ => rfl
  | w :: ws, k => by rw [findW, isB_no h, findW_no h ws]; rfl
theorem findW_yes {x : Tree} (h : (x.list || x.hinted) = false) : ∀ (ws : List (List UInt8)) (k : Nat), findW x ws k = if ws.any (fun w => x.data == w) = true then some (k + ws.findIdx (fun w => x.data == w)) else none
  | [], _ => rfl
  | w :: ws, k => by
    rw [findW, isB_yes h, findW_yes h ws, List.any_cons, List.findIdx_cons]
    cases hq : x.data == w with
    | true => simp
    | false =>
      simp only [Bool.false_or, Bool.false_eq_true, if_false, cond_false]
      split
      · congr 1
        omega
      · rfl
theorem endT_sub {l m : List Tree} {w : List UInt8} {b : Bd} (h : endT l w = some (b, m)) : (b.txt = [] ∨ ∃ y ∈ l, b.txt = y.data) ∧ (∀ x ∈ m, x ∈ l) ∧ m.length ≤ l.length := by
  cases l with
  | nil =>
    simp [endT] at h
    obtain ⟨rfl, rfl⟩ := h
    exact ⟨.inl rfl, fun x hx => hx, Nat.le_refl _⟩
  | cons x l =>
    simp only [endT] at h
    split at h
    · cases l with
      | nil => cases h
      | cons y l =>
        dsimp only at h
        split at h
        · cases h
        · simp only [Option.some.injEq, Prod.mk.injEq] at h
          obtain ⟨rfl, rfl⟩ := h
          exact ⟨.inr ⟨y, by simp, rfl⟩, fun z hz => by simp [hz], by simp; omega⟩
    · simp only [Option.some.injEq, Prod.mk.injEq] at h
      obtain ⟨rfl, rfl⟩ := h
      exact ⟨.inl rfl, fun x hx => hx, Nat.le_refl _⟩
def outT (o : Option Tg) : DR := match o with
  | some t => .one (.g (tagC t))
  | none => .pan vNone
def outL (o : Option (List Tg)) : DR := match o with
  | some m => .one (.c (.sl m.length (m.flatMap tagC)))
  | none => .pan vNone
section
variable {G : Nat → Option (List D)}
theorem indexS_m (ws : List (List UInt8)) (s : List UInt8) (hl : ws.length ≤ 100000000) : Spec Tryz.prog G 83 [.c (.sl ws.length (ws.map strD)), .c (.v (.string ⟨s.toArray⟩))] (.one (.c (.v (.int .i64 (hitI (fun w => s == w) ws))))) := by
  refine spec_of Tryz.func83 rfl rfl rfl (by kernel_rfl) rfl fun K => ?_
  (repeat' (first | with_reducible (first | refine zA fun Kn hK => ?_ | refine zB (by kernel_rfl) ?_ | refine Nx.go ?_ | go_step) | fail | with_reducible (first | refine zI ?_ | refine zJ ?_ | refine zK ?_ ?_ | refine zL ?_ ?_ | refine zR (by kernel_rfl) ?_) | simp (maxSteps := 9999999) (disch := omega) only [wq] | (with_reducible refine zM (fun hb => ?_) (fun hb => ?_) <;> (try simp only [hb])) | (with_reducible refine And.intro (by first | omega | (simp; done) | (simp; omega)) ?_) | simp (maxSteps := 9999999) (implicitDefEqProofs := false) only [go_sem, true_and] | fail))
  refine sound_loopR (fun x : {k : Nat // k ≤ ws.length ∧ ∀ y ∈ ws.take k, (s == y) = false} => ⟨[(0, vD (.sl ws.length (ws.map strD))), (1, vD (.v (.string ⟨s.toArray⟩))), (7, vI ws.length), (8, vI x.1)], []⟩) (fun x => ws.length - x.1) ⟨0, by simp⟩ [] (by (iterate 2 ((try simp (maxSteps := 9999999) (implicitDefEqProofs := false) only [go_sem, true_and]); (try simp (maxSteps := 9999999) (disch := omega) only [wq]))); try simp) (fun ⟨k, hk, hall⟩ => ?_)
  by_cases hlt : k < ws.length
  · obtain ⟨x, hx⟩ : ∃ x, ws[k]? = some x := ⟨_, List.getElem?_eq_getElem hlt⟩
    have hb : decide ((k : Int) < (ws.length : Int)) = true := by simpa using hlt
    have hs := str_at hx
    cases hq : s == x with
    | true =>
      (repeat' (first | with_reducible (first | refine zA fun Kn hK => ?_ | refine zB (by kernel_rfl) ?_ | refine Nx.go ?_ | go_step) | fail | with_reducible (first | refine zI ?_ | refine zJ ?_ | refine zK ?_ ?_ | refine zL ?_ ?_ | refine zR (by kernel_rfl) ?_) | simp (maxSteps := 9999999) (disch := omega) only [wq] | (with_reducible refine zM (fun hb => ?_) (fun hb => ?_) <;> (try simp only [hb])) | (with_reducible refine And.intro (by first | omega | (simp; done) | (simp; omega)) ?_) | simp (maxSteps := 9999999) (implicitDefEqProofs := false) only [go_sem, hb, hs, strD, hq, List.length_map] | fail))
      rw [hit_at hx hq hall]
    | false =>
      (repeat' (first | with_reducible (first | refine zA fun Kn hK => ?_ | refine zB (by kernel_rfl) ?_ | refine Nx.go ?_ | go_step) | fail | with_reducible (first | refine zI ?_ | refine zJ ?_ | refine zK ?_ ?_ | refine zL ?_ ?_ | refine zR (by kernel_rfl) ?_) | simp (maxSteps := 9999999) (disch := omega) only [wq] | (with_reducible refine zM (fun hb => ?_) (fun hb => ?_) <;> (try simp only [hb])) | (with_reducible refine And.intro (by first | omega | (simp; done) | (simp; omega)) ?_) | simp (maxSteps := 9999999) (implicitDefEqProofs := false) only [go_sem, hb, hs, strD, hq, List.length_map] | fail))
      refine ⟨[], ⟨k + 1, hlt, take_more hx hq hall⟩, ?_⟩
      (iterate 2 ((try simp (maxSteps := 9999999) (implicitDefEqProofs := false) only [go_sem, true_and]); (try simp (maxSteps := 9999999) (disch := omega) only [wq])))
      (simp only [ijq, true_and, and_true]; first | done | omega | (split <;> omega) | (simp; done) | (simp; omega))
  · have hb : decide ((k : Int) < (ws.length : Int)) = false := by simpa using hlt
    obtain rfl : k = ws.length := by omega
    rw [List.take_length] at hall
    (repeat' (first | with_reducible (first | refine zA fun Kn hK => ?_ | refine zB (by kernel_rfl) ?_ | refine Nx.go ?_ | go_step) | fail | with_reducible (first | refine zI ?_ | refine zJ ?_ | refine zK ?_ ?_ | refine zL ?_ ?_ | refine zR (by kernel_rfl) ?_) | simp (maxSteps := 9999999) (disch := omega) only [wq] | (with_reducible refine zM (fun hb => ?_) (fun hb => ?_) <;> (try simp only [hb])) | (with_reducible refine And.intro (by first | omega | (simp; done) | (simp; omega)) ?_) | simp (maxSteps := 9999999) (implicitDefEqProofs := false) only [go_sem, hb] | fail))
    rw [hit_no hall]
theorem ranged_m (l : List Tree) (hl : l.length ≤ 100000000) (hd : ∀ x ∈ l, x.data.length ≤ 1000000000) : Spec Tryz.prog G 74 [.c (.sl l.length (l.flatMap treeC))] (outT (rangeT isV l)) := by
  have ht := want_t (G := G)
  have hf := want_f (G := G)
  have hnames := names_m (G := G)
  match l, hl, hd with
  | [], _, _ =>
    rw [show rangeT isV [] = none from rfl, outT]
    have d : decide (((([] : List Tree).length : Nat) : Int) > 0) = false := rfl
    generalize ([] : List Tree) = L at *
    refine spec_of Tryz.func74 rfl rfl rfl (by kernel_rfl) rfl fun K => ?_
    (repeat' (first | with_reducible (first | refine zA fun Kn hK => ?_ | refine zB (by kernel_rfl) ?_ | refine Nx.go ?_ | go_step) | (refine ⟨_, hf, ?_⟩) | with_reducible (first | refine zI ?_ | refine zJ ?_ | refine zK ?_ ?_ | refine zL ?_ ?_ | refine zR (by kernel_rfl) ?_) | simp (maxSteps := 9999999) (disch := omega) only [wq] | (with_reducible refine zM (fun hb => ?_) (fun hb => ?_) <;> (try simp only [hb])) | (with_reducible refine And.intro (by first | omega | (simp; done) | (simp; omega)) ?_) | simp (maxSteps := 9999999) (implicitDefEqProofs := false) only [go_sem, d, bD, bytesD] | fail))
    exact ⟨_, rfl, rfl⟩
  | x :: l, hl, hd =>
    rw [rangeT_eq]
    have hx : (x :: l)[0]? = some x := rfl
    have f0 := flat_at (f := treeC) treeC_len hx
    simp only [Nat.zero_mul, List.drop_zero] at f0
    have n0 : decide (((x :: l).length : Int) > 0) = true := by rw [decide_eq_true_iff, List.length_cons]; omega
    have n1 : (0 : Int) < ((x :: l).length : Int) := by rw [List.length_cons]; omega
    have n1' : 0 < (x :: l).length := by rw [List.length_cons]; omega
    have n2 : 1 ≤ (x :: l).length := by rw [List.length_cons]; omega
    have dr := flat_drop (f := treeC) treeC_len (x :: l) 1
    have dl : (x :: l).length - 1 = l.length := by simp
    have dl2 : (((x :: l).length : Int) - 1) = (l.length : Int) := by rw [List.length_cons]; omega
    have hdr : (x :: l).drop 1 = l := rfl
    rw [hdr] at dr
    simp only [Nat.one_mul] at dr
    have ho : ordA = strD [] :: ordW.map strD := rfl
    have hd1 := hd x (by simp)
    have hd2 : ∀ y ∈ l, y.data.length ≤ 1000000000 := fun y hy => hd y (by simp [hy])
    have hl2 : l.length ≤ 100000000 := by rw [List.length_cons] at hl; omega
    clear hd hdr hx
    generalize x :: l = L at *
    cases hxb : x.list || x.hinted with
    | true =>
      have h1 := patom_n (G := G) x rfl hxb
      rw [findW_no hxb, outT]
      unfold ordA at hnames
      refine spec_of Tryz.func74 rfl rfl rfl (by kernel_rfl) rfl fun K => ?_
      (repeat' (first | with_reducible (first | refine zA fun Kn hK => ?_ | refine zB (by kernel_rfl) ?_ | refine Nx.go ?_ | refine zO (by decide +kernel) ?_ | refine zP ?_ | go_step) | (refine ⟨_, ht, ?_⟩) | (refine ⟨_, hnames, ?_⟩) | (refine ⟨_, h1, ?_⟩) | with_reducible (first | refine zI ?_ | refine zJ ?_ | refine zK ?_ ?_ | refine zL ?_ ?_ | refine zR (by kernel_rfl) ?_ | exact (show logOk _ _ = true by kernel_rfl)) | simp (maxSteps := 9999999) (disch := omega) only [wq] | (with_reducible refine zM (fun hb => ?_) (fun hb => ?_) <;> (try simp only [hb])) | (with_reducible refine And.intro (by first | omega | (simp; done) | (simp; omega)) ?_) | simp (maxSteps := 9999999) (implicitDefEqProofs := false) only [go_sem, n0, n1, n1', f0, ordA, bD, bytesD] | fail))
    | false =>
      have h1 := patom_y (G := G) x rfl hd1 hxb
      have hi := indexS_m (G := G) ordW x.data (by decide)
      rw [findW_yes hxb]
      cases hany : ordW.any (fun w => x.data == w) with
      | false =>
        rw [if_neg (by simp)]
        dsimp only
        rw [outT]
        unfold hitI at hi
        rw [hany, if_neg (by simp)] at hi
        unfold ordA at hnames
        refine spec_of Tryz.func74 rfl rfl rfl (by kernel_rfl) rfl fun K => ?_
        (repeat' (first | with_reducible (first | refine zA fun Kn hK => ?_ | refine zB (by kernel_rfl) ?_ | refine Nx.go ?_ | refine zO (by decide +kernel) ?_ | refine zP ?_ | go_step) | (refine ⟨none, ?_⟩) | (refine ⟨_, ht, ?_⟩) | (refine ⟨_, hnames, ?_⟩) | (refine ⟨_, h1, ?_⟩) | (refine ⟨_, hi, ?_⟩) | (refine ⟨_, hf, ?_⟩) | with_reducible (first | refine zI ?_ | refine zJ ?_ | refine zK ?_ ?_ | refine zL ?_ ?_ | refine zR (by kernel_rfl) ?_ | exact (show logOk _ _ = true by kernel_rfl)) | simp (maxSteps := 9999999) (disch := omega) only [wq] | (with_reducible refine zM (fun hb => ?_) (fun hb => ?_) <;> (try simp only [hb])) | (with_reducible refine And.intro (by first | omega | (simp; done) | (simp; omega)) ?_) | simp (maxSteps := 9999999) (implicitDefEqProofs := false) only [go_sem, n0, n1, n1', f0, ordA, bD, bytesD] | fail))
        all_goals first | exact ⟨_, rfl, rfl⟩ | trace_state
      | true =>
        rw [if_pos rfl]
        dsimp only
        unfold hitI at hi
        rw [hany, if_pos rfl] at hi
        have hj : ordW.findIdx (fun w => x.data == w) < 5 := List.findIdx_lt_length_of_exists (by simpa using hany)
        generalize ordW.findIdx (fun w => x.data == w) = j at *
        have hO : ((UInt8.ofNat (1 + j)).toNat : Int) = (j : Int) + 1 := by
          rw [UInt8.toNat_ofNat_of_lt' (by simp only [UInt8.size]; omega)]
          omega
        generalize UInt8.ofNat (1 + j) = o at *
        have hj0 : decide ((j : Int) ≥ 0) = true := by simp
        have e1 := ends_m (G := G) l wG (by decide) hl2 hd2
        unfold ends2
        cases hE1 : endP l wG with
        | none =>
          rw [hE1, endsO] at e1
          dsimp only
          rw [outT]
          unfold ordA at hnames
          unfold wG at e1
          refine spec_of Tryz.func74 rfl rfl rfl (by kernel_rfl) rfl fun K => ?_
          (repeat' (first | with_reducible (first | refine zA fun Kn hK => ?_ | refine zB (by kernel_rfl) ?_ | refine Nx.go ?_ | refine zO (by decide +kernel) ?_ | refine zP ?_ | go_step) | (refine ⟨none, ?_⟩) | (refine ⟨_, ht, ?_⟩) | (refine ⟨_, hnames, ?_⟩) | (refine ⟨_, h1, ?_⟩) | (refine ⟨_, hi, ?_⟩) | (refine ⟨_, e1, ?_⟩) | with_reducible (first | refine zI ?_ | refine zJ ?_ | refine zK ?_ ?_ | refine zL ?_ ?_ | refine zR (by kernel_rfl) ?_ | exact (show logOk _ _ = true by kernel_rfl)) | simp (maxSteps := 9999999) (disch := omega) only [wq] | (with_reducible refine zM (fun hb => ?_) (fun hb => ?_) <;> (try simp only [hb])) | (with_reducible refine And.intro (by first | omega | (simp; done) | (simp; omega)) ?_) | simp (maxSteps := 9999999) (implicitDefEqProofs := false) only [go_sem, n0, n1, n1', n2, dr, dl, dl2, f0, hj0, ordA, bD, bytesD] | fail))
          all_goals first | exact ⟨_, rfl, rfl⟩ | trace_state
        | some p =>
          obtain ⟨lo, l1⟩ := p
          rw [hE1, endsO] at e1
          obtain ⟨t1, t2, t3⟩ := endT_sub (endP_eq hE1)
          have e2 := ends_m (G := G) l1 wL (by decide) (by omega) (fun y hy => hd2 y (t2 y hy))
          dsimp only
          unfold wG at e1
          unfold wL at e2
          unfold bdD at e1
          unfold ordA at hnames
          cases hE2 : endP l1 wL with
          | none =>
            unfold wL at hE2
            rw [hE2, endsO] at e2
            dsimp only
            rw [outT]
            refine spec_of Tryz.func74 rfl rfl rfl (by kernel_rfl) rfl fun K => ?_
            (repeat' (first | with_reducible (first | refine zA fun Kn hK => ?_ | refine zB (by kernel_rfl) ?_ | refine Nx.go ?_ | refine zO (by decide +kernel) ?_ | refine zP ?_ | go_step) | (refine ⟨none, ?_⟩) | (refine ⟨_, ht, ?_⟩) | (refine ⟨_, hnames, ?_⟩) | (refine ⟨_, h1, ?_⟩) | (refine ⟨_, hi, ?_⟩) | (refine ⟨_, e1, ?_⟩) | (refine ⟨_, e2, ?_⟩) | with_reducible (first | refine zI ?_ | refine zJ ?_ | refine zK ?_ ?_ | refine zL ?_ ?_ | refine zR (by kernel_rfl) ?_ | exact (show logOk _ _ = true by kernel_rfl)) | simp (maxSteps := 9999999) (disch := omega) only [wq] | (with_reducible refine zM (fun hb => ?_) (fun hb => ?_) <;> (try simp only [hb])) | (with_reducible refine And.intro (by first | omega | (simp; done) | (simp; omega)) ?_) | simp (maxSteps := 9999999) (implicitDefEqProofs := false) only [go_sem, n0, n1, n1', n2, dr, dl, dl2, f0, hj0, ordA, bD, bytesD] | fail))
            all_goals first | exact ⟨_, rfl, rfl⟩ | trace_state
          | some p =>
            obtain ⟨hi2, l2⟩ := p
            obtain ⟨u1, u2, u3⟩ := endT_sub (endP_eq hE2)
            unfold wL at hE2
            rw [hE2, endsO] at e2
            unfold bdD at e2
            have txt : ∀ (b : Bd) (k : List Tree), (∀ y ∈ k, y.data.length ≤ 1000000000) → (b.txt = [] ∨ ∃ y ∈ k, b.txt = y.data) → b.txt.length ≤ 1000000000 := fun b k hk h => by
              rcases h with h | ⟨y, hy, h⟩ <;> rw [h]
              · simp
              · exact hk y hy
            have hm := may11_m (G := G) o lo hi2 (txt lo l hd2 t1) (txt hi2 l1 (fun y hy => hd2 y (t2 y hy)) u1)
            clear txt t1 t2 t3 u1 u2 u3 hE1 hE2
            have e0 := len0_empty l2
            unfold bdD bD at hm
            rw [hO] at hm
            dsimp only
            cases hz : emptyL l2 with
            | false =>
              rw [hz] at e0
              rw [if_neg (by simp)]
              dsimp only
              rw [outT]
              refine spec_of Tryz.func74 rfl rfl rfl (by kernel_rfl) rfl fun K => ?_
              (repeat' (first | with_reducible (first | refine zA fun Kn hK => ?_ | refine zB (by kernel_rfl) ?_ | refine Nx.go ?_ | refine zO (by decide +kernel) ?_ | refine zP ?_ | go_step) | (refine ⟨none, ?_⟩) | (refine ⟨_, ht, ?_⟩) | (refine ⟨_, hnames, ?_⟩) | (refine ⟨_, h1, ?_⟩) | (refine ⟨_, hi, ?_⟩) | (refine ⟨_, e1, ?_⟩) | (refine ⟨_, e2, ?_⟩) | (refine ⟨_, hf, ?_⟩) | with_reducible (first | refine zI ?_ | refine zJ ?_ | refine zK ?_ ?_ | refine zL ?_ ?_ | refine zR (by kernel_rfl) ?_ | exact (show logOk _ _ = true by kernel_rfl)) | simp (maxSteps := 9999999) (disch := omega) only [wq] | (with_reducible refine zM (fun hb => ?_) (fun hb => ?_) <;> (try simp only [hb])) | (with_reducible refine And.intro (by first | omega | (simp; done) | (simp; omega)) ?_) | simp (maxSteps := 9999999) (implicitDefEqProofs := false) only [go_sem, n0, n1, n1', n2, dr, dl, dl2, f0, hj0, ordA, bD, bytesD, e0] | fail))
              all_goals first | exact ⟨_, rfl, rfl⟩ | trace_state
            | true =>
              rw [hz] at e0
              rw [if_pos rfl]
              dsimp only
              cases hq : mayR isV o lo hi2 with
              | false =>
                rw [hq] at hm
                rw [if_neg (by simp), outT]
                refine spec_of Tryz.func74 rfl rfl rfl (by kernel_rfl) rfl fun K => ?_
                (repeat' (first | with_reducible (first | refine zA fun Kn hK => ?_ | refine zB (by kernel_rfl) ?_ | refine Nx.go ?_ | refine zO (by decide +kernel) ?_ | refine zP ?_ | go_step) | (refine ⟨none, ?_⟩) | (refine ⟨_, ht, ?_⟩) | (refine ⟨_, hnames, ?_⟩) | (refine ⟨_, h1, ?_⟩) | (refine ⟨_, hi, ?_⟩) | (refine ⟨_, e1, ?_⟩) | (refine ⟨_, e2, ?_⟩) | (refine ⟨_, hm, ?_⟩) | (refine ⟨_, hf, ?_⟩) | with_reducible (first | refine zI ?_ | refine zJ ?_ | refine zK ?_ ?_ | refine zL ?_ ?_ | refine zR (by kernel_rfl) ?_ | exact (show logOk _ _ = true by kernel_rfl)) | simp (maxSteps := 9999999) (disch := omega) only [wq] | (with_reducible refine zM (fun hb => ?_) (fun hb => ?_) <;> (try simp only [hb])) | (with_reducible refine And.intro (by first | omega | (simp; done) | (simp; omega)) ?_) | simp (maxSteps := 9999999) (implicitDefEqProofs := false) only [go_sem, n0, n1, n1', n2, dr, dl, dl2, f0, hj0, ordA, bD, bytesD, e0] | fail))
                all_goals first | exact ⟨_, rfl, rfl⟩ | trace_state
              | true =>
                rw [hq] at hm
                rw [if_pos rfl, outT, tagC_mk]
                unfold bD
                rw [hO]
                refine spec_of Tryz.func74 rfl rfl rfl (by kernel_rfl) rfl fun K => ?_
                (repeat' (first | with_reducible (first | refine zA fun Kn hK => ?_ | refine zB (by kernel_rfl) ?_ | refine Nx.go ?_ | refine zO (by decide +kernel) ?_ | refine zP ?_ | go_step) | (refine ⟨none, ?_⟩) | (refine ⟨_, ht, ?_⟩) | (refine ⟨_, hnames, ?_⟩) | (refine ⟨_, h1, ?_⟩) | (refine ⟨_, hi, ?_⟩) | (refine ⟨_, e1, ?_⟩) | (refine ⟨_, e2, ?_⟩) | (refine ⟨_, hm, ?_⟩) | (refine ⟨_, hf, ?_⟩) | with_reducible (first | refine zI ?_ | refine zJ ?_ | refine zK ?_ ?_ | refine zL ?_ ?_ | refine zR (by kernel_rfl) ?_ | exact (show logOk _ _ = true by kernel_rfl)) | simp (maxSteps := 9999999) (disch := omega) only [wq] | (with_reducible refine zM (fun hb => ?_) (fun hb => ?_) <;> (try simp only [hb])) | (with_reducible refine And.intro (by first | omega | (simp; done) | (simp; omega)) ?_) | simp (maxSteps := 9999999) (implicitDefEqProofs := false) only [go_sem, n0, n1, n1', n2, dr, dl, dl2, f0, hj0, ordA, bD, bytesD, e0] | fail))
                all_goals first | rfl | trace_state
end
end Go.Proofs.YtbeghpkkpnbkgaaGreatDoor
/- Tags: the program's tag of a value. -/
namespace Go.Proofs.YtbeghpkkpnbkgaaGreatDoor
open Go.RowKit
theorem same_isB {x : Tree} (hx : x.clean = true) (s : List UInt8) : x.same (atomT s) = isB x s := by
  rw [Bool.eq_iff_iff, isB_iff (clean_fair hx)]
  exact ⟨fun h => same_of h, fun h => same_t h⟩
section
variable {G : Nat → Option (List D)}
theorem ptags_w (f : Tree → Option Tg) (l : List Tree) (hl : l.length ≤ 100000000) (ih : ∀ x ∈ l, Spec Tryz.prog G 34 [.g (treeC x)] (outT (f x))) :
    Spec Tryz.prog G 54 [.c (.sl l.length (l.flatMap treeC))] (outL (allSome (l.map f))) := by
  have hP := preS_len (f := f) (l := l)
  have s1 : ∀ {k x y}, k ≤ (preS (l.map f)).length → l[k]? = some x → f x = some y → (preS (l.map f))[k]? = some y := preS_step
  have s2 : ∀ {k x}, k ≤ (preS (l.map f)).length → l[k]? = some x → f x = none → (preS (l.map f)).length = k ∧ allSome (l.map f) = none := preS_stop
  have s3 := preS_all (f := f) (l := l)
  generalize allSome (l.map f) = A at *
  generalize preS (l.map f) = P at *
  refine spec_of Tryz.func54 rfl rfl rfl (by kernel_rfl) (by cases A <;> rfl) fun K => ?_
  (repeat' (first | with_reducible (first | refine zA fun Kn hK => ?_ | refine zB (by kernel_rfl) ?_ | refine Nx.go ?_ | go_step) | fail | with_reducible (first | refine zI ?_ | refine zJ ?_ | refine zK ?_ ?_ | refine zL ?_ ?_ | refine zR (by kernel_rfl) ?_) | simp (maxSteps := 9999999) (disch := omega) only [wq] | (with_reducible refine zM (fun hb => ?_) (fun hb => ?_) <;> (try simp only [hb])) | (with_reducible refine And.intro (by first | omega | (simp; done) | (simp; omega)) ?_) | simp (maxSteps := 9999999) (implicitDefEqProofs := false) only [go_sem, true_and] | fail))
  refine sound_void 3 1000 10 34 (by rfl) (by rfl) ?_
  refine sound_loopR (fun x : {k : Nat // k ≤ l.length ∧ k ≤ P.length} => ⟨[(3, vR 1000 10 x.1), (6, vD (.sl l.length (l.flatMap treeC))), (7, vI l.length), (8, vI x.1)], [(1000, some ⟨34, ((P.take x.1).flatMap tagC).map C.d, false, false⟩)]⟩) (fun x => l.length - x.1) ⟨0, by omega⟩ [] (by (iterate 2 ((try simp (maxSteps := 9999999) (implicitDefEqProofs := false) only [go_sem, AObj.trim, List.take_zero, List.flatMap_nil, List.map_nil]); (try simp (maxSteps := 9999999) (disch := omega) only [wq]))); try simp) (fun ⟨k, hk, hkP⟩ => ?_)
  by_cases hlt : k < l.length
  · obtain ⟨x, hx⟩ : ∃ x, l[k]? = some x := ⟨_, List.getElem?_eq_getElem hlt⟩
    have hb : decide ((k : Int) < (l.length : Int)) = true := by simpa using hlt
    have hsp := ih x (List.mem_of_getElem? hx)
    have hlen : ((P.take k).flatMap tagC).length = k * 10 := by rw [tagC_flen, List.length_take, Nat.min_eq_left hkP]
    cases hf : f x with
    | none =>
      obtain ⟨e1, e2⟩ := s2 hkP hx hf
      rw [hf, outT] at hsp
      (repeat' (first | with_reducible (first | refine zA fun Kn hK => ?_ | refine zB (by kernel_rfl) ?_ | refine Nx.go ?_ | go_step) | (refine ⟨_, hsp, ?_⟩) | with_reducible (first | refine zI ?_ | refine zJ ?_ | refine zK ?_ ?_ | refine zL ?_ ?_ | refine zR (by kernel_rfl) ?_) | simp (maxSteps := 9999999) (disch := omega) only [wq] | (with_reducible refine zM (fun hb => ?_) (fun hb => ?_) <;> (try simp only [hb])) | (with_reducible refine And.intro (by first | omega | (simp; done) | (simp; omega)) ?_) | simp (maxSteps := 9999999) (implicitDefEqProofs := false) only [go_sem, hb, hlen, List.length_map, true_and, flat_at treeC_len hx, bD, bytesD] | fail))
      rw [e2]
      exact ⟨_, rfl, rfl⟩
    | some t =>
      have hPk := s1 hkP hx hf
      rw [hf, outT] at hsp
      have htt := tagC_eq t
      have ht : (P.take (k + 1)).flatMap tagC = (P.take k).flatMap tagC ++ tagC t := by
        rw [List.take_add_one, hPk, List.flatMap_append]
        simp
      rw [htt] at hsp ht
      generalize (P.take k).flatMap tagC = W at *
      (repeat' (first | with_reducible (first | refine zA fun Kn hK => ?_ | refine zB (by kernel_rfl) ?_ | refine Nx.go ?_ | go_step) | (refine ⟨_, hsp, ?_⟩) | with_reducible (first | refine zI ?_ | refine zJ ?_ | refine zK ?_ ?_ | refine zL ?_ ?_ | refine zR (by kernel_rfl) ?_) | simp (maxSteps := 9999999) (disch := omega) only [wq] | (with_reducible refine zM (fun hb => ?_) (fun hb => ?_) <;> (try simp only [hb])) | (with_reducible refine And.intro (by first | omega | (simp; done) | (simp; omega)) ?_) | simp (maxSteps := 9999999) (implicitDefEqProofs := false) only [go_sem, hb, rep1, hlen, List.length_map, true_and, Nat.le_refl, List.append_nil, flat_at treeC_len hx, bD, bytesD] | fail))
      refine ⟨[(1000, 16)], ⟨k + 1, hlt, len_pos hPk⟩, ?_⟩
      rw [ht]
      (iterate 2 ((try simp (maxSteps := 9999999) (implicitDefEqProofs := false) only [go_sem, bD]); (try simp (maxSteps := 9999999) (disch := omega) only [wq])))
      (simp only [ijq, true_and, and_true]; first | done | omega | (split <;> omega) | (simp; done) | (simp; omega))
  · have hb : decide ((k : Int) < (l.length : Int)) = false := by simpa using hlt
    obtain rfl : k = l.length := by omega
    have hPl : P.length = l.length := by omega
    have hA := s3 hkP
    have hT : P.take l.length = P := by rw [← hPl, List.take_length]
    have hlen : (P.flatMap tagC).length = l.length * 10 := by rw [tagC_flen, hPl]
    simp only [hT]
    (repeat' (first | with_reducible (first | refine zA fun Kn hK => ?_ | refine zB (by kernel_rfl) ?_ | refine Nx.go ?_ | go_step) | fail | with_reducible (first | refine zI ?_ | refine zJ ?_ | refine zK ?_ ?_ | refine zL ?_ ?_ | refine zR (by kernel_rfl) ?_) | simp (maxSteps := 9999999) (disch := omega) only [wq] | (with_reducible refine zM (fun hb => ?_) (fun hb => ?_) <;> (try simp only [hb])) | (with_reducible refine And.intro (by first | omega | (simp; done) | (simp; omega)) ?_) | simp (maxSteps := 9999999) (implicitDefEqProofs := false) only [go_sem, hb, hlen, List.length_map] | fail))
    rw [hA, outL, hPl]
theorem starts_m (v : Tree) {cs : List D} (hcs : treeC v = cs) (hw : v.wt ≤ 10000000) (hc : v.clean = true) : Spec Tryz.prog G 52 [.g cs] (.one (.c (.v (.bool (headB v wStar))))) := by
  subst hcs
  have ha := atom_m (G := G) wStar (by decide)
  have hal := treeC_eq (.mk false false [] wStar [])
  rw [treeC_eq]
  cases hl : v.list with
  | false =>
    have hh : headB v wStar = false := by unfold headB; rw [hl]; rfl
    rw [hh]
    refine spec_of Tryz.func52 rfl rfl rfl (by kernel_rfl) rfl fun K => ?_
    (repeat' (first | with_reducible (first | refine zA fun Kn hK => ?_ | refine zB (by kernel_rfl) ?_ | refine Nx.go ?_ | go_step) | fail | with_reducible (first | refine zI ?_ | refine zJ ?_ | refine zK ?_ ?_ | refine zL ?_ ?_ | refine zR (by kernel_rfl) ?_) | simp (maxSteps := 9999999) (disch := omega) only [wq] | (with_reducible refine zM (fun hb => ?_) (fun hb => ?_) <;> (try simp only [hb])) | (with_reducible refine And.intro (by first | omega | (simp; done) | (simp; omega)) ?_) | simp (maxSteps := 9999999) (implicitDefEqProofs := false) only [go_sem, Bool.false_and] | fail))
  | true =>
    by_cases hk : v.kids = []
    · have hh : headB v wStar = false := by unfold headB; rw [hl, hk]; rfl
      have d : decide ((v.kids.length : Int) > 0) = false := by rw [hk]; rfl
      rw [hh]
      refine spec_of Tryz.func52 rfl rfl rfl (by kernel_rfl) rfl fun K => ?_
      (repeat' (first | with_reducible (first | refine zA fun Kn hK => ?_ | refine zB (by kernel_rfl) ?_ | refine Nx.go ?_ | go_step) | fail | with_reducible (first | refine zI ?_ | refine zJ ?_ | refine zK ?_ ?_ | refine zL ?_ ?_ | refine zR (by kernel_rfl) ?_) | simp (maxSteps := 9999999) (disch := omega) only [wq] | (with_reducible refine zM (fun hb => ?_) (fun hb => ?_) <;> (try simp only [hb])) | (with_reducible refine And.intro (by first | omega | (simp; done) | (simp; omega)) ?_) | simp (maxSteps := 9999999) (implicitDefEqProofs := false) only [go_sem, d, Bool.false_and] | fail))
    · obtain ⟨x, l, hkc⟩ := List.exists_cons_of_ne_nil hk
      have hh : headB v wStar = isB x wStar := by unfold headB; rw [hl, hkc]; rfl
      have hxm : x ∈ v.kids := by rw [hkc]; simp
      have hs := same_m (G := G) x (atomT wStar) _ _ rfl rfl (by have := Tree.wt_kid hxm; omega)
      rw [same_isB (kid_clean hc hxm)] at hs
      have d : decide ((v.kids.length : Int) > 0) = true := by rw [hkc, List.length_cons]; simp
      have n1 : (0 : Int) < (v.kids.length : Int) := by rw [hkc, List.length_cons]; omega
      have n1' : 0 < v.kids.length := by omega
      have hx : v.kids[0]? = some x := by rw [hkc]; rfl
      have f0 := flat_at (f := treeC) treeC_len hx
      simp only [Nat.zero_mul, List.drop_zero] at f0
      rw [hh]
      unfold atomT at hs
      rw [hal] at ha hs
      unfold wStar at *
      clear hh hkc
      refine spec_of Tryz.func52 rfl rfl rfl (by kernel_rfl) rfl fun K => ?_
      (repeat' (first | with_reducible (first | refine zA fun Kn hK => ?_ | refine zB (by kernel_rfl) ?_ | refine Nx.go ?_ | go_step) | (refine ⟨_, ha, ?_⟩) | (refine ⟨_, hs, ?_⟩) | with_reducible (first | refine zI ?_ | refine zJ ?_ | refine zK ?_ ?_ | refine zL ?_ ?_ | refine zR (by kernel_rfl) ?_) | simp (maxSteps := 9999999) (disch := omega) only [wq] | (with_reducible refine zM (fun hb => ?_) (fun hb => ?_) <;> (try simp only [hb])) | (with_reducible refine And.intro (by first | omega | (simp; done) | (simp; omega)) ?_) | simp (maxSteps := 9999999) (implicitDefEqProofs := false) only [go_sem, d, n1, n1', f0, decide_true, Bool.true_and] | fail))
theorem starred_w (l : List Tree) (sub : Option (List Tg)) (hl : l.length ≤ 100000000) (hd : ∀ x ∈ l, x.data.length ≤ 1000000000)
    (hs : Spec Tryz.prog G 54 [.c (.sl (l.drop 1).length ((l.drop 1).flatMap treeC))] (outL sub)) : Spec Tryz.prog G 53 [.c (.sl l.length (l.flatMap treeC))] (outT (starT isV l sub)) := by
  have ht := want_t (G := G)
  have hf := want_f (G := G)
  match l, hl, hd, hs with
  | [], _, _, _ =>
    rw [show starT isV [] sub = some (kTg 1 []) from rfl, outT, kTg, tagC_mk]
    have d : (((([] : List Tree).length : Nat) : Int) == 0) = true := rfl
    generalize ([] : List Tree) = L at *
    refine spec_of Tryz.func53 rfl rfl rfl (by kernel_rfl) rfl fun K => ?_
    (repeat' (first | with_reducible (first | refine zA fun Kn hK => ?_ | refine zB (by kernel_rfl) ?_ | refine Nx.go ?_ | go_step) | fail | with_reducible (first | refine zI ?_ | refine zJ ?_ | refine zK ?_ ?_ | refine zL ?_ ?_ | refine zR (by kernel_rfl) ?_) | simp (maxSteps := 9999999) (disch := omega) only [wq] | (with_reducible refine zM (fun hb => ?_) (fun hb => ?_) <;> (try simp only [hb])) | (with_reducible refine And.intro (by first | omega | (simp; done) | (simp; omega)) ?_) | simp (maxSteps := 9999999) (implicitDefEqProofs := false) only [go_sem, d, bD, bytesD, Bd.none] | fail))
    rfl
  | x :: l, hl, hd, hs =>
    have hx : (x :: l)[0]? = some x := rfl
    have f0 := flat_at (f := treeC) treeC_len hx
    simp only [Nat.zero_mul, List.drop_zero] at f0
    have n0 : (((x :: l).length : Int) == 0) = false := by rw [beq_eq_false_iff_ne, List.length_cons]; omega
    have n1 : (0 : Int) < ((x :: l).length : Int) := by rw [List.length_cons]; omega
    have n1' : 0 < (x :: l).length := by rw [List.length_cons]; omega
    have n2 : 1 ≤ (x :: l).length := by rw [List.length_cons]; omega
    have dr := flat_drop (f := treeC) treeC_len (x :: l) 1
    have dl : (x :: l).length - 1 = l.length := by simp
    have dl2 : (((x :: l).length : Int) - 1) = (l.length : Int) := by rw [List.length_cons]; omega
    have hdr : (x :: l).drop 1 = l := rfl
    rw [hdr] at dr hs
    simp only [Nat.one_mul] at dr
    have hd2 : ∀ y ∈ l, y.data.length ≤ 1000000000 := fun y hy => hd y (by simp [hy])
    have hl2 : l.length ≤ 100000000 := by rw [List.length_cons] at hl; omega
    have hr := ranged_m (G := G) l hl2 hd2
    have hst : starT isV (x :: l) sub = if isB x wSet then sub.map (kTg 4) else if isB x wPrefix then prefT l else if isB x wRange then rangeT isV l else none := rfl
    rw [hst]
    clear hst
    cases hxb : x.list || x.hinted with
    | true =>
      have h1 := patom_n (G := G) x rfl hxb
      rw [isB_no hxb, isB_no hxb, isB_no hxb]
      simp only [Bool.false_eq_true, if_false, outT]
      generalize x :: l = L at *
      refine spec_of Tryz.func53 rfl rfl rfl (by kernel_rfl) rfl fun K => ?_
      (repeat' (first | with_reducible (first | refine zA fun Kn hK => ?_ | refine zB (by kernel_rfl) ?_ | refine Nx.go ?_ | go_step) | (refine ⟨_, h1, ?_⟩) | with_reducible (first | refine zI ?_ | refine zJ ?_ | refine zK ?_ ?_ | refine zL ?_ ?_ | refine zR (by kernel_rfl) ?_) | simp (maxSteps := 9999999) (disch := omega) only [wq] | (with_reducible refine zM (fun hb => ?_) (fun hb => ?_) <;> (try simp only [hb])) | (with_reducible refine And.intro (by first | omega | (simp; done) | (simp; omega)) ?_) | simp (maxSteps := 9999999) (implicitDefEqProofs := false) only [go_sem, n0, n1, n1', f0, bD, bytesD] | fail))
      exact ⟨_, rfl, rfl⟩
    | false =>
      have h1 := patom_y (G := G) x rfl (hd x (by simp)) hxb
      rw [isB_yes hxb, isB_yes hxb, isB_yes hxb]
      cases q1 : x.data == wSet with
      | true =>
        rw [if_pos rfl]
        unfold wSet at q1
        generalize x :: l = L at *
        cases sub with
        | none =>
          rw [outL] at hs
          rw [show Option.map (kTg 4) none = none from rfl, outT]
          refine spec_of Tryz.func53 rfl rfl rfl (by kernel_rfl) rfl fun K => ?_
          (repeat' (first | with_reducible (first | refine zA fun Kn hK => ?_ | refine zB (by kernel_rfl) ?_ | refine Nx.go ?_ | go_step) | (refine ⟨_, h1, ?_⟩) | (refine ⟨_, hs, ?_⟩) | with_reducible (first | refine zI ?_ | refine zJ ?_ | refine zK ?_ ?_ | refine zL ?_ ?_ | refine zR (by kernel_rfl) ?_) | simp (maxSteps := 9999999) (disch := omega) only [wq] | (with_reducible refine zM (fun hb => ?_) (fun hb => ?_) <;> (try simp only [hb])) | (with_reducible refine And.intro (by first | omega | (simp; done) | (simp; omega)) ?_) | simp (maxSteps := 9999999) (implicitDefEqProofs := false) only [go_sem, n0, n1, n1', n2, dr, dl, dl2, f0, q1, bD, bytesD] | fail))
          exact ⟨_, rfl, rfl⟩
        | some k =>
          rw [outL] at hs
          rw [show Option.map (kTg 4) (some k) = some (kTg 4 k) from rfl, outT, kTg, tagC_mk]
          refine spec_of Tryz.func53 rfl rfl rfl (by kernel_rfl) rfl fun K => ?_
          (repeat' (first | with_reducible (first | refine zA fun Kn hK => ?_ | refine zB (by kernel_rfl) ?_ | refine Nx.go ?_ | go_step) | (refine ⟨_, h1, ?_⟩) | (refine ⟨_, hs, ?_⟩) | with_reducible (first | refine zI ?_ | refine zJ ?_ | refine zK ?_ ?_ | refine zL ?_ ?_ | refine zR (by kernel_rfl) ?_) | simp (maxSteps := 9999999) (disch := omega) only [wq] | (with_reducible refine zM (fun hb => ?_) (fun hb => ?_) <;> (try simp only [hb])) | (with_reducible refine And.intro (by first | omega | (simp; done) | (simp; omega)) ?_) | simp (maxSteps := 9999999) (implicitDefEqProofs := false) only [go_sem, n0, n1, n1', n2, dr, dl, dl2, f0, q1, bD, bytesD, Bd.none] | fail))
          rfl
      | false =>
        rw [if_neg (by simp)]
        unfold wSet at q1
        cases q2 : x.data == wPrefix with
        | true =>
          rw [if_pos rfl]
          unfold wPrefix at q2
          match l, hl, hd, hs, hr, hd2, hl2, n0, n1, n1', n2, f0, dr, dl, dl2, hdr, hx with
          | [], hl, hd, hs, hr, hd2, hl2, n0, n1, n1', n2, f0, dr, dl, dl2, hdr, hx =>
            rw [show prefT [] = none from rfl, outT]
            have d : ((([x] : List Tree).length : Int) == 2) = false := rfl
            generalize [x] = L at *
            refine spec_of Tryz.func53 rfl rfl rfl (by kernel_rfl) rfl fun K => ?_
            (repeat' (first | with_reducible (first | refine zA fun Kn hK => ?_ | refine zB (by kernel_rfl) ?_ | refine Nx.go ?_ | go_step) | (refine ⟨_, h1, ?_⟩) | (refine ⟨_, hf, ?_⟩) | with_reducible (first | refine zI ?_ | refine zJ ?_ | refine zK ?_ ?_ | refine zL ?_ ?_ | refine zR (by kernel_rfl) ?_) | simp (maxSteps := 9999999) (disch := omega) only [wq] | (with_reducible refine zM (fun hb => ?_) (fun hb => ?_) <;> (try simp only [hb])) | (with_reducible refine And.intro (by first | omega | (simp; done) | (simp; omega)) ?_) | simp (maxSteps := 9999999) (implicitDefEqProofs := false) only [go_sem, n0, n1, n1', d, f0, q1, q2, bD, bytesD] | fail))
            exact ⟨_, rfl, rfl⟩
          | [y], hl, hd, hs, hr, hd2, hl2, n0, n1, n1', n2, f0, dr, dl, dl2, hdr, hx =>
            have hy : [x, y][1]? = some y := rfl
            have f1 := flat_at (f := treeC) treeC_len hy
            simp only [Nat.one_mul] at f1
            have d : ((([x, y] : List Tree).length : Int) == 2) = true := rfl
            have m1 : (1 : Int) < (([x, y] : List Tree).length : Int) := by simp
            have m1' : 1 < ([x, y] : List Tree).length := by simp
            rw [show prefT [y] = if y.list || y.hinted then none else some (.mk 5 y.data [] 0 Bd.none Bd.none) from rfl]
            cases hyb : y.list || y.hinted with
            | true =>
              have h2 := patom_n (G := G) y rfl hyb
              rw [if_pos rfl, outT]
              generalize [x, y] = L at *
              refine spec_of Tryz.func53 rfl rfl rfl (by kernel_rfl) rfl fun K => ?_
              (repeat' (first | with_reducible (first | refine zA fun Kn hK => ?_ | refine zB (by kernel_rfl) ?_ | refine Nx.go ?_ | go_step) | (refine ⟨_, h1, ?_⟩) | (refine ⟨_, ht, ?_⟩) | (refine ⟨_, h2, ?_⟩) | with_reducible (first | refine zI ?_ | refine zJ ?_ | refine zK ?_ ?_ | refine zL ?_ ?_ | refine zR (by kernel_rfl) ?_) | simp (maxSteps := 9999999) (disch := omega) only [wq] | (with_reducible refine zM (fun hb => ?_) (fun hb => ?_) <;> (try simp only [hb])) | (with_reducible refine And.intro (by first | omega | (simp; done) | (simp; omega)) ?_) | simp (maxSteps := 9999999) (implicitDefEqProofs := false) only [go_sem, n0, n1, n1', m1, m1', d, f0, f1, q1, q2, bD, bytesD] | fail))
              exact ⟨_, rfl, rfl⟩
            | false =>
              have h2 := patom_y (G := G) y rfl (hd2 y (by simp)) hyb
              rw [if_neg (by simp), outT, tagC_mk]
              generalize [x, y] = L at *
              refine spec_of Tryz.func53 rfl rfl rfl (by kernel_rfl) rfl fun K => ?_
              (repeat' (first | with_reducible (first | refine zA fun Kn hK => ?_ | refine zB (by kernel_rfl) ?_ | refine Nx.go ?_ | go_step) | (refine ⟨_, h1, ?_⟩) | (refine ⟨_, ht, ?_⟩) | (refine ⟨_, h2, ?_⟩) | with_reducible (first | refine zI ?_ | refine zJ ?_ | refine zK ?_ ?_ | refine zL ?_ ?_ | refine zR (by kernel_rfl) ?_) | simp (maxSteps := 9999999) (disch := omega) only [wq] | (with_reducible refine zM (fun hb => ?_) (fun hb => ?_) <;> (try simp only [hb])) | (with_reducible refine And.intro (by first | omega | (simp; done) | (simp; omega)) ?_) | simp (maxSteps := 9999999) (implicitDefEqProofs := false) only [go_sem, n0, n1, n1', m1, m1', d, f0, f1, q1, q2, bD, bytesD, Bd.none] | fail))
              rfl
          | y :: z :: l, hl, hd, hs, hr, hd2, hl2, n0, n1, n1', n2, f0, dr, dl, dl2, hdr, hx =>
            rw [show prefT (y :: z :: l) = none from rfl, outT]
            have d : (((x :: y :: z :: l : List Tree).length : Int) == 2) = false := by rw [beq_eq_false_iff_ne, List.length_cons, List.length_cons, List.length_cons]; omega
            generalize x :: y :: z :: l = L at *
            refine spec_of Tryz.func53 rfl rfl rfl (by kernel_rfl) rfl fun K => ?_
            (repeat' (first | with_reducible (first | refine zA fun Kn hK => ?_ | refine zB (by kernel_rfl) ?_ | refine Nx.go ?_ | go_step) | (refine ⟨_, h1, ?_⟩) | (refine ⟨_, hf, ?_⟩) | with_reducible (first | refine zI ?_ | refine zJ ?_ | refine zK ?_ ?_ | refine zL ?_ ?_ | refine zR (by kernel_rfl) ?_) | simp (maxSteps := 9999999) (disch := omega) only [wq] | (with_reducible refine zM (fun hb => ?_) (fun hb => ?_) <;> (try simp only [hb])) | (with_reducible refine And.intro (by first | omega | (simp; done) | (simp; omega)) ?_) | simp (maxSteps := 9999999) (implicitDefEqProofs := false) only [go_sem, n0, n1, n1', d, f0, q1, q2, bD, bytesD] | fail))
            exact ⟨_, rfl, rfl⟩
        | false =>
          rw [if_neg (by simp)]
          unfold wPrefix at q2
          cases q3 : x.data == wRange with
          | true =>
            rw [if_pos rfl]
            unfold wRange at q3
            generalize x :: l = L at *
            generalize rangeT isV l = o at *
            cases o with
            | none =>
              dsimp only [outT] at hr ⊢
              refine spec_of Tryz.func53 rfl rfl rfl (by kernel_rfl) rfl fun K => ?_
              (repeat' (first | with_reducible (first | refine zA fun Kn hK => ?_ | refine zB (by kernel_rfl) ?_ | refine Nx.go ?_ | go_step) | (refine ⟨_, h1, ?_⟩) | (refine ⟨_, hr, ?_⟩) | with_reducible (first | refine zI ?_ | refine zJ ?_ | refine zK ?_ ?_ | refine zL ?_ ?_ | refine zR (by kernel_rfl) ?_) | simp (maxSteps := 9999999) (disch := omega) only [wq] | (with_reducible refine zM (fun hb => ?_) (fun hb => ?_) <;> (try simp only [hb])) | (with_reducible refine And.intro (by first | omega | (simp; done) | (simp; omega)) ?_) | simp (maxSteps := 9999999) (implicitDefEqProofs := false) only [go_sem, n0, n1, n1', n2, dr, dl, dl2, f0, q1, q2, q3, bD, bytesD] | fail))
              exact ⟨_, rfl, rfl⟩
            | some t =>
              dsimp only [outT] at hr ⊢
              rw [tagC_eq] at hr ⊢
              refine spec_of Tryz.func53 rfl rfl rfl (by kernel_rfl) rfl fun K => ?_
              (repeat' (first | with_reducible (first | refine zA fun Kn hK => ?_ | refine zB (by kernel_rfl) ?_ | refine Nx.go ?_ | go_step) | (refine ⟨_, h1, ?_⟩) | (refine ⟨_, hr, ?_⟩) | with_reducible (first | refine zI ?_ | refine zJ ?_ | refine zK ?_ ?_ | refine zL ?_ ?_ | refine zR (by kernel_rfl) ?_) | simp (maxSteps := 9999999) (disch := omega) only [wq] | (with_reducible refine zM (fun hb => ?_) (fun hb => ?_) <;> (try simp only [hb])) | (with_reducible refine And.intro (by first | omega | (simp; done) | (simp; omega)) ?_) | simp (maxSteps := 9999999) (implicitDefEqProofs := false) only [go_sem, n0, n1, n1', n2, dr, dl, dl2, f0, q1, q2, q3, bD, bytesD] | fail))
              try rfl
          | false =>
            rw [if_neg (by simp), outT]
            unfold wRange at q3
            generalize x :: l = L at *
            refine spec_of Tryz.func53 rfl rfl rfl (by kernel_rfl) rfl fun K => ?_
            (repeat' (first | with_reducible (first | refine zA fun Kn hK => ?_ | refine zB (by kernel_rfl) ?_ | refine Nx.go ?_ | go_step) | (refine ⟨_, h1, ?_⟩) | with_reducible (first | refine zI ?_ | refine zJ ?_ | refine zK ?_ ?_ | refine zL ?_ ?_ | refine zR (by kernel_rfl) ?_) | simp (maxSteps := 9999999) (disch := omega) only [wq] | (with_reducible refine zM (fun hb => ?_) (fun hb => ?_) <;> (try simp only [hb])) | (with_reducible refine And.intro (by first | omega | (simp; done) | (simp; omega)) ?_) | simp (maxSteps := 9999999) (implicitDefEqProofs := false) only [go_sem, n0, n1, n1', f0, q1, q2, q3, ni_none, valsOf, bD, bytesD] | fail))
            exact ⟨_, rfl, rfl⟩
theorem pget_m : ∀ v : Tree, ∀ cs : List D, treeC v = cs → v.wt ≤ 10000000 → v.clean = true → Spec Tryz.prog G 34 [.g cs] (outT (getT isV v)) := Tree.ind fun v ih cs hcs hw hc => by
  subst hcs
  have hst := starts_m (G := G) v rfl hw hc
  have h5 := v.wt_kids
  have hd : ∀ x ∈ v.kids, x.data.length ≤ 1000000000 := fun x hx => by
    have h1 := Tree.wt_kid hx
    have h2 := Tree.wt_data x
    omega
  have htg : ∀ k, Spec Tryz.prog G 54 [.c (.sl (v.kids.drop k).length ((v.kids.drop k).flatMap treeC))] (outL (allSome ((v.kids.drop k).map (getT isV)))) := fun k => by
    refine ptags_w (getT isV) (v.kids.drop k) (by rw [List.length_drop]; omega) fun x hx => ?_
    have hx := List.mem_of_mem_drop hx
    exact ih x hx _ rfl (by have := Tree.wt_kid hx; omega) (kid_clean hc hx)
  rw [getT_eq]
  have ev := treeC_eq v
  cases hh : headB v wStar with
  | true =>
    have hl : v.list = true := by
      unfold headB at hh
      rw [Bool.and_eq_true] at hh
      exact hh.1
    rw [hl, if_pos rfl, if_pos rfl]
    have hk : v.kids ≠ [] := fun e => by
      unfold headB at hh
      rw [e] at hh
      simp at hh
    have n2 : 1 ≤ v.kids.length := List.length_pos_iff.2 hk
    have hs := starred_w (G := G) (v.kids.drop 1) (allSome ((v.kids.map (getT isV)).drop 2)) (by rw [List.length_drop]; omega) (fun x hx => hd x (List.mem_of_mem_drop hx)) (by
      have := htg 2
      rw [List.map_drop] at this
      rw [List.drop_drop]
      exact this)
    have dr := flat_drop (f := treeC) treeC_len v.kids 1
    have dl : v.kids.length - 1 = (v.kids.drop 1).length := by rw [List.length_drop]
    have dl2 : ((v.kids.length : Int) - 1) = ((v.kids.drop 1).length : Int) := by rw [List.length_drop]; omega
    simp only [Nat.one_mul] at dr
    generalize starT isV (v.kids.drop 1) (allSome ((v.kids.map (getT isV)).drop 2)) = o at *
    generalize v.kids.drop 1 = M at *
    rw [ev, hl] at hst ⊢
    rw [hh] at hst
    clear hh ih hd htg hc
    cases o with
    | none =>
      dsimp only [outT] at hs ⊢
      refine spec_of Tryz.func34 rfl rfl rfl (by kernel_rfl) rfl fun K => ?_
      (repeat' (first | with_reducible (first | refine zA fun Kn hK => ?_ | refine zB (by kernel_rfl) ?_ | refine Nx.go ?_ | go_step) | (refine ⟨_, hst, ?_⟩) | (refine ⟨_, hs, ?_⟩) | with_reducible (first | refine zI ?_ | refine zJ ?_ | refine zK ?_ ?_ | refine zL ?_ ?_ | refine zR (by kernel_rfl) ?_) | simp (maxSteps := 9999999) (disch := omega) only [wq] | (with_reducible refine zM (fun hb => ?_) (fun hb => ?_) <;> (try simp only [hb])) | (with_reducible refine And.intro (by first | omega | (simp; done) | (simp; omega)) ?_) | simp (maxSteps := 9999999) (implicitDefEqProofs := false) only [go_sem, n2, dr, dl, dl2, bD, bytesD] | fail))
      exact ⟨_, rfl, rfl⟩
    | some t =>
      dsimp only [outT] at hs ⊢
      rw [tagC_eq] at hs ⊢
      refine spec_of Tryz.func34 rfl rfl rfl (by kernel_rfl) rfl fun K => ?_
      (repeat' (first | with_reducible (first | refine zA fun Kn hK => ?_ | refine zB (by kernel_rfl) ?_ | refine Nx.go ?_ | go_step) | (refine ⟨_, hst, ?_⟩) | (refine ⟨_, hs, ?_⟩) | with_reducible (first | refine zI ?_ | refine zJ ?_ | refine zK ?_ ?_ | refine zL ?_ ?_ | refine zR (by kernel_rfl) ?_) | simp (maxSteps := 9999999) (disch := omega) only [wq] | (with_reducible refine zM (fun hb => ?_) (fun hb => ?_) <;> (try simp only [hb])) | (with_reducible refine And.intro (by first | omega | (simp; done) | (simp; omega)) ?_) | simp (maxSteps := 9999999) (implicitDefEqProofs := false) only [go_sem, n2, dr, dl, dl2, bD, bytesD] | fail))
      try rfl
  | false =>
    rw [hh] at hst
    cases hl : v.list with
    | true =>
      have hs := htg 0
      simp only [List.drop_zero] at hs
      rw [if_pos rfl, if_neg (by simp)]
      rw [ev, hl] at hst ⊢
      generalize allSome (v.kids.map (getT isV)) = o at *
      cases o with
      | none =>
        dsimp only [outL] at hs
        rw [show Option.map (kTg 3) none = none from rfl, outT]
        refine spec_of Tryz.func34 rfl rfl rfl (by kernel_rfl) rfl fun K => ?_
        (repeat' (first | with_reducible (first | refine zA fun Kn hK => ?_ | refine zB (by kernel_rfl) ?_ | refine Nx.go ?_ | go_step) | (refine ⟨_, hst, ?_⟩) | (refine ⟨_, hs, ?_⟩) | with_reducible (first | refine zI ?_ | refine zJ ?_ | refine zK ?_ ?_ | refine zL ?_ ?_ | refine zR (by kernel_rfl) ?_) | simp (maxSteps := 9999999) (disch := omega) only [wq] | (with_reducible refine zM (fun hb => ?_) (fun hb => ?_) <;> (try simp only [hb])) | (with_reducible refine And.intro (by first | omega | (simp; done) | (simp; omega)) ?_) | simp (maxSteps := 9999999) (implicitDefEqProofs := false) only [go_sem, bD, bytesD] | fail))
        exact ⟨_, rfl, rfl⟩
      | some k =>
        dsimp only [outL] at hs
        rw [show Option.map (kTg 3) (some k) = some (kTg 3 k) from rfl, outT, kTg, tagC_mk]
        refine spec_of Tryz.func34 rfl rfl rfl (by kernel_rfl) rfl fun K => ?_
        (repeat' (first | with_reducible (first | refine zA fun Kn hK => ?_ | refine zB (by kernel_rfl) ?_ | refine Nx.go ?_ | go_step) | (refine ⟨_, hst, ?_⟩) | (refine ⟨_, hs, ?_⟩) | with_reducible (first | refine zI ?_ | refine zJ ?_ | refine zK ?_ ?_ | refine zL ?_ ?_ | refine zR (by kernel_rfl) ?_) | simp (maxSteps := 9999999) (disch := omega) only [wq] | (with_reducible refine zM (fun hb => ?_) (fun hb => ?_) <;> (try simp only [hb])) | (with_reducible refine And.intro (by first | omega | (simp; done) | (simp; omega)) ?_) | simp (maxSteps := 9999999) (implicitDefEqProofs := false) only [go_sem, bD, bytesD, Bd.none] | fail))
        rfl
    | false =>
      rw [if_neg (by simp)]
      cases hb : v.hinted with
      | true =>
        have h1 := patom_n (G := G) v rfl (by rw [hb]; simp)
        rw [if_pos rfl, outT]
        rw [ev, hl, hb] at hst h1 ⊢
        refine spec_of Tryz.func34 rfl rfl rfl (by kernel_rfl) rfl fun K => ?_
        (repeat' (first | with_reducible (first | refine zA fun Kn hK => ?_ | refine zB (by kernel_rfl) ?_ | refine Nx.go ?_ | go_step) | (refine ⟨_, hst, ?_⟩) | (refine ⟨_, h1, ?_⟩) | with_reducible (first | refine zI ?_ | refine zJ ?_ | refine zK ?_ ?_ | refine zL ?_ ?_ | refine zR (by kernel_rfl) ?_) | simp (maxSteps := 9999999) (disch := omega) only [wq] | (with_reducible refine zM (fun hb => ?_) (fun hb => ?_) <;> (try simp only [hb])) | (with_reducible refine And.intro (by first | omega | (simp; done) | (simp; omega)) ?_) | simp (maxSteps := 9999999) (implicitDefEqProofs := false) only [go_sem, bD, bytesD] | fail))
        exact ⟨_, rfl, rfl⟩
      | false =>
        have h1 := patom_y (G := G) v rfl (by have := v.wt_data; omega) (by rw [hl, hb]; rfl)
        rw [if_neg (by simp), outT, aTg, tagC_mk]
        rw [ev, hl, hb] at hst h1 ⊢
        refine spec_of Tryz.func34 rfl rfl rfl (by kernel_rfl) rfl fun K => ?_
        (repeat' (first | with_reducible (first | refine zA fun Kn hK => ?_ | refine zB (by kernel_rfl) ?_ | refine Nx.go ?_ | go_step) | (refine ⟨_, hst, ?_⟩) | (refine ⟨_, h1, ?_⟩) | with_reducible (first | refine zI ?_ | refine zJ ?_ | refine zK ?_ ?_ | refine zL ?_ ?_ | refine zR (by kernel_rfl) ?_) | simp (maxSteps := 9999999) (disch := omega) only [wq] | (with_reducible refine zM (fun hb => ?_) (fun hb => ?_) <;> (try simp only [hb])) | (with_reducible refine And.intro (by first | omega | (simp; done) | (simp; omega)) ?_) | simp (maxSteps := 9999999) (implicitDefEqProofs := false) only [go_sem, bD, bytesD, Bd.none] | fail))
        rfl
end
end Go.Proofs.YtbeghpkkpnbkgaaGreatDoor
/- Tags: the program's Get: what is thrown is caught. -/
namespace Go.Proofs.YtbeghpkkpnbkgaaGreatDoor
open Go.RowKit
theorem catch_idle (p q : Addr) (w : World) :
    CallsD Tryz.prog 31 #[.pointer (some p), .pointer (some q)] .returning w fun e u' w' => e = .returned (.tuple #[]) ∧ u' = .returning ∧ w' = w := by
  refine callsD_of_wpS Tryz.func31 rfl fun c₀ cs hu => ?_
  simp only [Tryz.ntmps31, List.size_toArray, List.length_cons, List.length_nil, Nat.reduceAdd, Nat.reduceSub, Array.replicate_succ, Array.replicate_zero, List.push_toArray, List.append_toArray, List.nil_append, List.cons_append]
  apply wpS_seq
  apply wpS_region
  simp [wpOpsS, go_sem, recoverD, hu, Exit.thenS]
  refine wpS_of_wp ?_
  go_wp2
  cases c₀
  simp_all [bodyPostS, results, Tryz.results31]
theorem under_none : (Tryz.prog.underlying 56) = some (.struct #[]) := by kernel_rfl
theorem assert_none (w : World) (xT : TypeId) : (Instr.typeAssert (.iface 56 (.agg #[])) xT 56 true).run Tryz.prog w = .ok (.tuple #[.agg #[], .bool true]) w := by
  simp [Instr.typeAssert, run_underlying under_none]
/-- The walk halts where a whole tag is read or written. -/
def HaltedZ (p : Prop) : Prop := p
theorem go_onZ {p : Prop} (h : p) : HaltedZ p := h
theorem haltZ {p : Prop} (h : HaltedZ p) : p := h
attribute [irreducible] HaltedZ
section
variable {P : Program} {w : World} {ops : Array Oper} {rest : List Oper} {o : Oper} {a : Act} {Q : Exit → Act → World → Prop}
theorem haltZ_load {ty : TypeId} {x : Operand} (ho : o.op = .load ty x) (h : HaltedZ (wpList P ops Q (o :: rest) a w)) : wpList P ops Q (o :: rest) a w := haltZ h
theorem haltZ_store {ty : TypeId} {x y : Operand} (ho : o.op = .store ty x y) (h : HaltedZ (wpList P ops Q (o :: rest) a w)) : wpList P ops Q (o :: rest) a w := haltZ h
end
def zTagV : List Value := [.int .u8 0, .slice none 0 0, .slice none 0 0, .int .u8 0, .bool false, .bool false, .slice none 0 0, .bool false, .bool false, .slice none 0 0]
theorem catch_pan (T E : Nat) (w : World) (cT : Array Value) (x : Value) (hc : cT.size = 10) (hT : w.heap[T]? = some (.cells cT 34 (0, 0))) (hE : w.heap[E]? = some (.cells #[x] 37 (0, 0))) (hne : T ≠ E) :
    CallsD Tryz.prog 31 #[.pointer (some ⟨T, 0, none⟩), .pointer (some ⟨E, 0, none⟩)] (.panicking [{ v := vNone, recovered := false }]) w fun e u' w' => e = .returned (.tuple #[]) ∧ u' = .panicking [{ v := vNone, recovered := true }] ∧
      Ev (fun k => k = T ∨ k = E) w w' ∧ w'.heap[T]? = some (.cells zTagV.toArray 34 (0, 0)) ∧ w'.heap[E]? = some (.cells #[.int .i64 13] 37 (0, 0)) := by
  refine callsD_of_wpS Tryz.func31 rfl fun c₀ cs hu => ?_
  unfold vNone at *
  simp only [Tryz.ntmps31, List.size_toArray, List.length_cons, List.length_nil, Nat.reduceAdd, Nat.reduceSub, Array.replicate_succ, Array.replicate_zero, List.push_toArray, List.append_toArray, List.nil_append, List.cons_append]
  apply wpS_seq
  apply wpS_region
  simp [wpOpsS, go_sem, recoverD, hu, Exit.thenS]
  refine wpS_of_wp ?_
  have hta := assert_none
  go_wp2_with (refine haltZ_store (ty := 34) rfl ?_)
  refine go_onZ (wpList_store_row rfl 34 _ _ rfl T zTagV.toArray rfl rfl 34 cT (box_alloc hT _) (by kernel_rfl) hc (by simp [zTagV, Value.oneCell']) ?_)
  have hT2 := setRow_heap _ T cT zTagV.toArray 34 (0, 0) (box_alloc hT (.cells #[] 56))
  have hE2 : ((w.alloc (.cells #[] 56)).setRow T zTagV.toArray).heap[E]? = _ := (setRow_other _ T E zTagV.toArray (Ne.symm hne)).trans (box_alloc hE (.cells #[] 56))
  have hev : Ev (fun k => k = T ∨ k = E) w ((w.alloc (.cells #[] 56)).setRow T zTagV.toArray) := by
    refine ⟨rfl, rfl, rfl, by simp, fun k hk hn => ?_⟩
    rw [setRow_other _ _ _ _ (fun e => hn (.inl e))]
    exact Below.heap_alloc w _ k hk
  generalize (w.alloc (.cells #[] 56)).setRow T zTagV.toArray = w2 at *
  have hc2 := boxed hE2 0 _ rfl
  have hf2 := boxed_frozen hE2 0
  go_wp2
  simp only [bodyPostS, results, Tryz.results31]
  have hev3 : Ev (fun k => k = T ∨ k = E) w (w2.setCell ⟨E, 0, none⟩ (.int .i64 13)) := ⟨hev.os, hev.tape, hev.output, by simpa [World.setCell] using hev.size, fun k hk hn => (Below.heap_setCell w2 ⟨E, 0, none⟩ _ k (fun e => hn (.inr e))).trans (hev.block k hk hn)⟩
  exact ⟨trivial, _, rfl, .tuple #[], by simp, rfl, rfl, hev3, box_far (p := ⟨E, 0, none⟩) hT2 hne _, by simpa using box_set hE2 (j := 0) (.int .i64 13)⟩
theorem results_cc {P : Program} {fn : Func} {p q : Tmp} {ty t2 : TypeId} {k2 : IntKind} (h : fn.results = #[.cell p ty, .cell q t2]) (tmps : Array Value) (w : World) (g e : Nat) (t : TypeId) (cs : Array Value) (fr : Nat × Nat) (d : TypeDesc) (u : Value)
    (hp : tmps.getD p undef = .pointer (some ⟨g, 0, none⟩)) (hg : w.heap[g]? = some (.cells cs t fr))
    (hu : P.underlying ty = some d) (hd : (match d with | .struct _ | .array _ _ => true | _ => false) = true) (hi : (P.info? ty).map (·.size) = some cs.size)
    (hq : tmps.getD q undef = .pointer (some ⟨e, 0, none⟩)) (he : w.cell? ⟨e, 0, none⟩ = some u) (hu2 : P.underlying t2 = some (.int k2)) :
    (results fn tmps).run P w = .ok (.tuple #[.agg cs, u]) w := by
  have hp' : tmps[p]?.getD undef = .pointer (some ⟨g, 0, none⟩) := by simpa using hp
  have hq' : tmps[q]?.getD undef = .pointer (some ⟨e, 0, none⟩) := by simpa using hq
  have h2 : (loadVar t2 ⟨e, 0, none⟩).run P w = .ok u w := by simp [loadVar, isAgg, run_underlying hu2, go_sem, he]
  simp [results, h, hp', hq', asAddr, run_loadVar_row w g t ty cs fr d hg hu hd hi, h2]
def getDf (T E : Nat) : List Deferred := [{ target := .fn (.func 31) #[.pointer (some ⟨T, 0, none⟩), .pointer (some ⟨E, 0, none⟩)], args := #[] }]
/-- What is thrown below Get. -/
theorem get_pan {tmps : Array Value} {R : Ending → World → Prop} (T E : Nat) (hne : T ≠ E) (w6 : World) (cT : Array Value) (x : Value) (hc : cT.size = 10) (hT : w6.heap[T]? = some (.cells cT 34 (0, 0))) (hE : w6.heap[E]? = some (.cells #[x] 37 (0, 0)))
    (p2 : tmps.getD 2 undef = .pointer (some ⟨T, 0, none⟩)) (p3 : tmps.getD 3 undef = .pointer (some ⟨E, 0, none⟩))
    (hR : ∀ w7, Ev (fun k => k = T ∨ k = E) w6 w7 → R (.returned (.tuple #[.agg zTagV.toArray, .int .i64 13])) w7) : bodyPostD Tryz.prog Tryz.f12 R (.panic [{ v := vNone, recovered := false }]) ⟨tmps, getDf T E⟩ w6 := by
  refine leaves_cons (f := 31) (args := #[.pointer (some ⟨T, 0, none⟩), .pointer (some ⟨E, 0, none⟩)]) (by simp) (by simp [go_sem]) ?_
  refine (catch_pan T E w6 _ _ hc hT hE hne).mono ?_
  rintro e u' w7 ⟨rfl, rfl, hev7, z1, z2⟩
  simp only [Leaves, settle]
  have hc7 := boxed z2 0 _ rfl
  exact ⟨.tuple #[.agg zTagV.toArray, .int .i64 13], results_cc rfl _ w7 T E 34 zTagV.toArray (0, 0) _ _ p2 z1 Tryz.underlying34 rfl (by kernel_rfl) p3 hc7 Tryz.underlying37, hR w7 hev7⟩
/-- Nothing is thrown below it. -/
theorem get_ret {tmps : Array Value} {R : Ending → World → Prop} (T E : Nat) (w6 : World) (cT : Array Value) (hc : cT.size = 10) (hT : w6.heap[T]? = some (.cells cT 34 (0, 0))) (hE : w6.heap[E]? = some (.cells #[.int .i64 0] 37 (0, 0)))
    (p2 : tmps.getD 2 undef = .pointer (some ⟨T, 0, none⟩)) (p3 : tmps.getD 3 undef = .pointer (some ⟨E, 0, none⟩))
    (hR : R (.returned (.tuple #[.agg cT, .int .i64 0])) w6) : bodyPostD Tryz.prog Tryz.f12 R .ret ⟨tmps, getDf T E⟩ w6 := by
  refine leaves_cons (f := 31) (args := #[.pointer (some ⟨T, 0, none⟩), .pointer (some ⟨E, 0, none⟩)]) (by simp) (by simp [go_sem]) ?_
  refine (catch_idle ⟨T, 0, none⟩ ⟨E, 0, none⟩ w6).mono ?_
  rintro e u' w7 ⟨rfl, rfl, rfl⟩
  simp only [Leaves, settle]
  have hc7 := boxed hE 0 _ rfl
  exact ⟨.tuple #[.agg cT, .int .i64 0], results_cc rfl _ w7 T E 34 cT (0, 0) _ _ p2 hT Tryz.underlying34 rfl (by rw [hc]; kernel_rfl) p3 hc7 Tryz.underlying37, hR⟩
theorem rd_zTag {w : World} {S : Nat → Prop} : DRd w S (.g (tagC zTg)) (.agg zTagV.toArray) := by
  refine ⟨zTagV, rfl, by rw [tagC_len]; rfl, fun j x u hx hu => ?_⟩
  rw [zTg, tagC_mk] at hx
  unfold zTagV at hu
  match j with
  | 0 | 1 | 2 | 3 | 4 | 5 | 6 | 7 | 8 | 9 =>
    injection hx with hx
    injection hu with hu
    subst hx hu
    first | exact .v _ rfl | exact .nil none 0 (by decide)
  | j + 10 => cases hx
/-- How Get ends. -/
def getO (v : Tree) : DR := match (if v.may then getT isV v else none) with
  | some t => .many [.g (tagC t), .c (.v (.int .i64 0))]
  | none => .many [.g (tagC zTg), .c (.v (.int .i64 13))]
section
variable {G : Nat → Option (List D)}
theorem tget_m (hG : G 2 = some powD) (v : Tree) {cs : List D} (hcs : treeC v = cs) (hw : v.wt ≤ 10000000) : Spec Tryz.prog G 12 [.g cs] (getO v) := by
  subst hcs
  refine Spec.mk0 (by unfold getO; split <;> rfl) ?_
  intro w S vs hS hT hA
  have hmay := (sxmay_m (G := G) hG v rfl hw).get0 rfl
  have hmf : ∀ (fn : Fn) (first cap : Array Value) (w : World), (Instr.makeFunc fn first cap).run Tryz.prog w = .ok (.func fn first cap) w := fun _ _ _ _ => rfl
  obtain ⟨hl, hc⟩ := hA
  match vs, hl with
  | [u], _ =>
  obtain ⟨us, rfl, hul, hus⟩ : DRd w S (.g (treeC v)) u := hc 0 _ _ rfl rfl
  rw [treeC_len] at hul
  match us, hul with
  | [u0, u1, u2, u3, u4], _ =>
  have hend : ∀ w7 : World, DEnd w7 (fun b => S b ∨ w.heap.size ≤ b ∧ b < w7.heap.size) (.many [.g (tagC zTg), .c (.v (.int .i64 13))]) (.returned (.tuple #[.agg zTagV.toArray, .int .i64 13])) := fun w7 => by
    refine ⟨[.agg zTagV.toArray, .int .i64 13], rfl, rfl, fun i x y hx hy => ?_⟩
    match i with
    | 0 =>
      have hx : some (DV.g (tagC zTg)) = some x := hx
      have hy : some (Value.agg zTagV.toArray) = some y := hy
      injection hx with hx
      injection hy with hy
      subst hx hy
      exact rd_zTag
    | 1 =>
      have hx : some (DV.c (.v (.int .i64 13))) = some x := hx
      have hy : some (Value.int .i64 13) = some y := hy
      injection hx with hx
      injection hy with hy
      subst hx hy
      exact .v _ rfl
    | i + 2 => simp at hx
  go_enter_defers Tryz.func12, Tryz.ntmps12
  go_wp2_with (refine haltZ_load (ty := 27) rfl ?_)
  have e3 : Ev (fun _ => False) w (((w.alloc (.cells #[u0, u1, u2, u3, u4] 27)).alloc (.cells zTagV.toArray 34)).alloc (.cells #[.int .i64 0] 37)) := by
    refine ⟨rfl, rfl, rfl, by simp; omega, fun k hk _ => ?_⟩
    rw [Below.heap_alloc _ _ k (by simp; omega), Below.heap_alloc _ _ k (by simp; omega), Below.heap_alloc _ _ k hk]
  have b1 : (((w.alloc (.cells #[u0, u1, u2, u3, u4] 27)).alloc (.cells zTagV.toArray 34)).alloc (.cells #[.int .i64 0] 37)).heap[w.heap.size]? = some (.cells #[u0, u1, u2, u3, u4] 27 (0, 0)) := box_alloc (box_alloc (box_new w _ _) _) _
  have b2 : (((w.alloc (.cells #[u0, u1, u2, u3, u4] 27)).alloc (.cells zTagV.toArray 34)).alloc (.cells #[.int .i64 0] 37)).heap[w.heap.size + 1]? = some (.cells zTagV.toArray 34 (0, 0)) := by
    have h := box_new (w.alloc (.cells #[u0, u1, u2, u3, u4] 27)) zTagV.toArray 34
    rw [World.size_alloc] at h
    exact box_alloc h _
  have b3 : (((w.alloc (.cells #[u0, u1, u2, u3, u4] 27)).alloc (.cells zTagV.toArray 34)).alloc (.cells #[.int .i64 0] 37)).heap[w.heap.size + 1 + 1]? = some (.cells #[.int .i64 0] 37 (0, 0)) := by
    have h := box_new ((w.alloc (.cells #[u0, u1, u2, u3, u4] 27)).alloc (.cells zTagV.toArray 34)) #[.int .i64 0] 37
    rw [World.size_alloc, World.size_alloc] at h
    exact h
  have later : ∀ w', Ev (fun _ => False) w w' → (∀ b, S b → b < w'.heap.size) ∧ Tables G w' S ∧ DArgs w' S [.g (treeC v)] [.agg #[u0, u1, u2, u3, u4]] := fun w' h => by
    have hb : ∀ b, S b → w'.heap[b]? = w.heap[b]? := fun b hb => h.block b (hS b hb) (fun h => h)
    refine ⟨fun b hb => Nat.lt_of_lt_of_le (hS b hb) h.size, fun g cs hg => (hT g cs hg).mono (fun _ h => h) hb, rfl, fun i x y hx hy => ?_⟩
    cases i with
    | zero =>
      have hx : some (DV.g (treeC v)) = some x := hx
      have hy : some (Value.agg #[u0, u1, u2, u3, u4]) = some y := hy
      injection hx with hx
      injection hy with hy
      subst hx hy
      exact ⟨[u0, u1, u2, u3, u4], rfl, by rw [treeC_len]; rfl, fun j a b ha hb' => RD.mono (fun _ h => h) (fun p hp => World.cell?_of_block (hb _ hp)) (hus j a b ha hb')⟩
    | succ i => simp at hx
  unfold zTagV at e3 b1 b2 b3
  generalize hg : w.heap.size = g at *
  generalize (((w.alloc (.cells #[u0, u1, u2, u3, u4] 27)).alloc (.cells _ 34)).alloc (.cells #[.int .i64 0] 37)) = w3 at *
  refine go_onZ (wpList_load_row rfl 27 _ rfl g rfl 27 #[u0, u1, u2, u3, u4] (0, 0) _ b1 Tryz.underlying27 rfl (by kernel_rfl) ?_)
  go_wp2_with fail
  obtain ⟨l1, l2, l3⟩ := later w3 e3
  refine Calls.mono (hmay w3 S _ l1 l2 l3) ?_
  rintro e w4 ⟨e4, y, rfl, hy⟩
  obtain rfl : y = .bool v.may := by
    have hy : RD w4 _ (.v (.bool v.may)) y := hy
    cases hy
    rfl
  clear hy l1 l2 l3 hmay
  have e5 := e3.trans e4 (fun i hi h => h)
  have k1 : ∀ {k x}, w3.heap[k]? = some x → w4.heap[k]? = some x := fun {k x} h => (e4.block k (Array.getElem?_eq_some_iff.1 h).1 (fun h => h)).trans h
  have d1 := k1 b1
  have d2 := k1 b2
  have d3 := k1 b3
  clear k1 b1 b2 b3 e3 e4
  obtain ⟨l1, l2, l3⟩ := later w4 e5
  cases hm : v.may with
  | false =>
    have hwf := (want_f (G := G)).get0 rfl
    have hO : getO v = .many [.g (tagC zTg), .c (.v (.int .i64 13))] := by
      unfold getO
      rw [hm]
      rfl
    go_wp2_with fail
    refine Calls.mono (hwf w4 S _ l1 l2 ⟨rfl, fun i x y hx hy => ?_⟩) ?_
    · cases i with
      | zero =>
        have hx : some (DV.c (.v (.bool false))) = some x := hx
        have hy : some (Value.bool false) = some y := hy
        injection hx with hx
        injection hy with hy
        subst hx hy
        exact .v _ rfl
      | succ i => simp at hx
    rintro e w6 ⟨e6, rfl⟩
    have k6 : ∀ {k x}, w4.heap[k]? = some x → w6.heap[k]? = some x := fun {k x} h => (e6.block k (Array.getElem?_eq_some_iff.1 h).1 (fun h => h)).trans h
    go_wp2
    refine get_pan (g + 1) (g + 1 + 1) (by omega) w6 _ _ rfl (k6 d2) (k6 d3) rfl rfl fun w7 hev7 => ⟨(e5.trans e6 fun _ _ h => h).trans hev7 (fun i hi h => by omega), ?_⟩
    rw [hO, hg]
    exact hend w7
  | true =>
    have hwt := (want_t (G := G)).get0 rfl
    have hcl : v.clean = true := by
      simp only [Tree.may, Bool.and_eq_true] at hm
      exact hm.1.1.1
    have hget := (pget_m (G := G) v _ rfl hw hcl).get0 (by unfold outT; split <;> rfl)
    go_wp2_with fail
    refine Calls.mono (hwt w4 S _ l1 l2 ⟨rfl, fun i x y hx hy => ?_⟩) ?_
    · cases i with
      | zero =>
        have hx : some (DV.c (.v (.bool true))) = some x := hx
        have hy : some (Value.bool true) = some y := hy
        injection hx with hx
        injection hy with hy
        subst hx hy
        exact .v _ rfl
      | succ i => simp at hx
    rintro e w6 ⟨e6, us6, rfl, hl6, _⟩
    obtain rfl : us6 = [] := List.length_eq_zero_iff.1 hl6
    have k6 : ∀ {k x}, w4.heap[k]? = some x → w6.heap[k]? = some x := fun {k x} h => (e6.block k (Array.getElem?_eq_some_iff.1 h).1 (fun h => h)).trans h
    have e7 := e5.trans e6 (fun i hi h => h)
    have q1 := k6 d1
    have q2 := k6 d2
    have q3 := k6 d3
    have z6 := (Array.getElem?_eq_some_iff.1 q3).1
    clear k6 l1 l2 l3 d1 d2 d3 hwt hl6
    go_wp2_with (refine haltZ_load (ty := 27) rfl ?_)
    refine go_onZ (wpList_load_row rfl 27 _ rfl g rfl 27 #[u0, u1, u2, u3, u4] (0, 0) _ q1 Tryz.underlying27 rfl (by kernel_rfl) ?_)
    go_wp2_with fail
    obtain ⟨l1, l2, l3⟩ := later w6 e7
    refine Calls.mono (hget w6 S _ l1 l2 l3) ?_
    rintro e w8 ⟨e8, hD⟩
    have k8 : ∀ {k x}, w6.heap[k]? = some x → w8.heap[k]? = some x := fun {k x} h => (e8.block k (Array.getElem?_eq_some_iff.1 h).1 (fun h => h)).trans h
    have r2 := k8 q2
    have r3 := k8 q3
    have e9 := e7.trans e8 (fun i hi h => h)
    clear k8 q1 q2 q3 l1 l2 l3
    have hO0 : getO v = match getT isV v with
        | some t => .many [.g (tagC t), .c (.v (.int .i64 0))]
        | none => .many [.g (tagC zTg), .c (.v (.int .i64 13))] := by
      unfold getO
      rw [hm, if_pos rfl]
    cases ho : getT isV v with
    | none =>
      rw [ho] at hD hO0
      obtain rfl : e = .panicked [{ v := vNone, recovered := false }] := hD
      go_wp2
      refine get_pan (g + 1) (g + 1 + 1) (by omega) w8 _ _ rfl r2 r3 rfl rfl fun w9 hev9 => ⟨e9.trans hev9 (fun i hi h => by omega), ?_⟩
      rw [hO0, hg]
      exact hend w9
    | some t =>
      rw [ho] at hD hO0
      obtain ⟨y, rfl, ys, rfl, hyl, hyr⟩ : ∃ y, e = .returned y ∧ DRd w8 _ (.g (tagC t)) y := hD
      rw [tagC_len] at hyl
      go_wp2_with (refine haltZ_store (ty := 34) rfl ?_)
      have hones : ys.toArray.all (·.oneCell') = true := by
        rw [← Array.all_toList, List.all_eq_true]
        intro u hu
        obtain ⟨j, hj, hju⟩ := List.mem_iff_getElem.1 hu
        have hj' : j < ys.length := by simpa using hj
        have hy : ys[j]? = some u := by
          rw [List.getElem?_eq_getElem hj']
          exact congrArg some (by simpa using hju)
        exact RD.one (hyr j _ u (List.getElem?_eq_getElem (by rw [tagC_len, ← hyl]; exact hj')) hy)
      refine go_onZ (wpList_store_row rfl 34 _ _ rfl (g + 1) ys.toArray rfl rfl 34 _ r2 (by rw [List.size_toArray, hyl]; kernel_rfl) (by simp [hyl]) hones ?_)
      have t2 := setRow_heap w8 (g + 1) _ ys.toArray 34 (0, 0) r2
      have t3 := (setRow_other w8 (g + 1) (g + 1 + 1) ys.toArray (by omega)).trans r3
      have v8 : Ev (fun k => k = g + 1 ∨ k = g + 1 + 1) w8 (w8.setRow (g + 1) ys.toArray) := ⟨rfl, rfl, rfl, by simp, fun k hk hn => setRow_other _ _ _ _ (fun e => hn (.inl e))⟩
      generalize w8.setRow (g + 1) ys.toArray = w9 at *
      have hc9 := boxed t3 0 _ rfl
      have hf9 := boxed_frozen t3 0
      have s2 : (w9.setCell ⟨g + 1 + 1, 0, none⟩ (.int .i64 0)).heap[g + 1]? = some (.cells ys.toArray 34 (0, 0)) := box_far (p := ⟨g + 1 + 1, 0, none⟩) t2 (by simp) _
      have s3 : (w9.setCell ⟨g + 1 + 1, 0, none⟩ (.int .i64 0)).heap[g + 1 + 1]? = some (.cells #[.int .i64 0] 37 (0, 0)) := by simpa using box_set t3 (j := 0) (.int .i64 0)
      have v9 : Ev (fun k => k = g + 1 ∨ k = g + 1 + 1) w8 (w9.setCell ⟨g + 1 + 1, 0, none⟩ (.int .i64 0)) := ⟨v8.os, v8.tape, v8.output, by simpa [World.setCell] using v8.size, fun k hk hn => (Below.heap_setCell w9 ⟨g + 1 + 1, 0, none⟩ _ k (fun e => hn (.inr e))).trans (v8.block k hk hn)⟩
      go_wp2
      refine get_ret (g + 1) (g + 1 + 1) _ _ (by rw [List.size_toArray, hyl]) s2 s3 rfl rfl ⟨e9.trans v9 (fun i hi h => by omega), ?_⟩
      rw [hO0]
      generalize w9.setCell ⟨g + 1 + 1, 0, none⟩ (.int .i64 0) = w10 at *
      refine ⟨[.agg ys.toArray, .int .i64 0], rfl, rfl, fun i x y hx hy => ?_⟩
      match i with
      | 0 =>
        have hx : some (DV.g (tagC t)) = some x := hx
        have hy : some (Value.agg ys.toArray) = some y := hy
        injection hx with hx
        injection hy with hy
        subst hx hy
        have hz8 := v9.size
        have hz6 := e8.size
        refine ⟨ys, rfl, by rw [tagC_len]; exact hyl, fun j a b ha hb => RD.mono (fun c hc => ?_) (fun p hp => World.cell?_of_block (v9.block _ ?_ ?_)) (hyr j a b ha hb)⟩
        · rcases hc with hc | ⟨h1, h2⟩
          · exact .inl hc
          · exact .inr ⟨by omega, by omega⟩
        · rcases hp with hc | ⟨h1, h2⟩
          · have := hS _ hc
            omega
          · exact h2
        · rintro (h | h)
          all_goals
            rcases hp with hc | ⟨h1, h2⟩
            · have := hS _ hc
              omega
            · omega
      | 1 =>
        have hx : some (DV.c (.v (.int .i64 0))) = some x := hx
        have hy : some (Value.int .i64 0) = some y := hy
        injection hx with hx
        injection hy with hy
        subst hx hy
        exact .v _ rfl
      | i + 2 => simp at hx
end
end Go.Proofs.YtbeghpkkpnbkgaaGreatDoor
/- Tags: the program's Same, concrete, Request; the document's. -/
namespace Go.Proofs.YtbeghpkkpnbkgaaGreatDoor
open Go.RowKit
section
variable {G : Nat → Option (List D)}
theorem rconc_m : ∀ v : Tree, ∀ cs : List D, treeC v = cs → v.wt ≤ 10000000 → Spec Tryz.prog G 44 [.g cs] (.one (.c (.v (.bool v.conc)))) := Tree.ind fun v ih cs hcs hw => by
  subst hcs
  have hh := headref_m (G := G) v rfl wStar
  have h5 := v.wt_kids
  rw [Tree.conc_eq]
  rw [treeC_eq] at hh ⊢
  unfold wStar at *
  generalize v.hinted = a at *
  generalize headB v [42] = b at *
  cases a with
  | true =>
    refine spec_of Tryz.func44 rfl rfl rfl (by kernel_rfl) rfl fun K => ?_
    (repeat' (first | with_reducible (first | refine zA fun Kn hK => ?_ | refine zB (by kernel_rfl) ?_ | refine Nx.go ?_ | go_step) | (refine ⟨_, hh, ?_⟩) | with_reducible (first | refine zI ?_ | refine zJ ?_ | refine zK ?_ ?_ | refine zL ?_ ?_ | refine zR (by kernel_rfl) ?_) | simp (maxSteps := 9999999) (disch := omega) only [wq] | (with_reducible refine zM (fun hb => ?_) (fun hb => ?_) <;> (try simp only [hb])) | (with_reducible refine And.intro (by first | omega | (simp; done) | (simp; omega)) ?_) | simp (maxSteps := 9999999) (implicitDefEqProofs := false) only [go_sem, true_and] | fail))
    all_goals rfl
  | false =>
    cases b with
    | true =>
      refine spec_of Tryz.func44 rfl rfl rfl (by kernel_rfl) rfl fun K => ?_
      (repeat' (first | with_reducible (first | refine zA fun Kn hK => ?_ | refine zB (by kernel_rfl) ?_ | refine Nx.go ?_ | go_step) | (refine ⟨_, hh, ?_⟩) | with_reducible (first | refine zI ?_ | refine zJ ?_ | refine zK ?_ ?_ | refine zL ?_ ?_ | refine zR (by kernel_rfl) ?_) | simp (maxSteps := 9999999) (disch := omega) only [wq] | (with_reducible refine zM (fun hb => ?_) (fun hb => ?_) <;> (try simp only [hb])) | (with_reducible refine And.intro (by first | omega | (simp; done) | (simp; omega)) ?_) | simp (maxSteps := 9999999) (implicitDefEqProofs := false) only [go_sem, true_and] | fail))
      all_goals rfl
    | false =>
      refine spec_of Tryz.func44 rfl rfl rfl (by kernel_rfl) rfl fun K => ?_
      (repeat' (first | with_reducible (first | refine zA fun Kn hK => ?_ | refine zB (by kernel_rfl) ?_ | refine Nx.go ?_ | go_step) | (refine ⟨_, hh, ?_⟩) | with_reducible (first | refine zI ?_ | refine zJ ?_ | refine zK ?_ ?_ | refine zL ?_ ?_ | refine zR (by kernel_rfl) ?_) | simp (maxSteps := 9999999) (disch := omega) only [wq] | (with_reducible refine zM (fun hb => ?_) (fun hb => ?_) <;> (try simp only [hb])) | (with_reducible refine And.intro (by first | omega | (simp; done) | (simp; omega)) ?_) | simp (maxSteps := 9999999) (implicitDefEqProofs := false) only [go_sem, true_and] | fail))
      refine sound_loopR (fun x : {k : Nat // k ≤ v.kids.length ∧ (v.kids.take k).all Tree.conc = true} => ⟨[(1, vP 1 0), (12, vI v.kids.length), (13, vI x.1)], [(1, some ⟨27, [.d (.v (.bool v.list)), .d (.v (.bool false)), .d (bytesD v.hint), .d (bytesD v.data), .d (.sl v.kids.length (v.kids.flatMap treeC))], true, false⟩)]⟩) (fun x => v.kids.length - x.1) ⟨0, by simp⟩ [] (by (iterate 2 ((try simp (maxSteps := 9999999) (implicitDefEqProofs := false) only [go_sem, true_and]); (try simp (maxSteps := 9999999) (disch := omega) only [wq]))); try simp) (fun ⟨k, hk, hall⟩ => ?_)
      by_cases hlt : k < v.kids.length
      · obtain ⟨x, hx⟩ : ∃ x, v.kids[k]? = some x := ⟨_, List.getElem?_eq_getElem hlt⟩
        have hb : decide ((k : Int) < (v.kids.length : Int)) = true := by simpa using hlt
        have hm := List.mem_of_getElem? hx
        have hi := ih x hm _ rfl (by have := Tree.wt_kid hm; omega)
        cases hq : x.conc with
        | true =>
          rw [hq] at hi
          (repeat' (first | with_reducible (first | refine zA fun Kn hK => ?_ | refine zB (by kernel_rfl) ?_ | refine Nx.go ?_ | go_step) | (refine ⟨_, hi, ?_⟩) | with_reducible (first | refine zI ?_ | refine zJ ?_ | refine zK ?_ ?_ | refine zL ?_ ?_ | refine zR (by kernel_rfl) ?_) | simp (maxSteps := 9999999) (disch := omega) only [wq] | (with_reducible refine zM (fun hb => ?_) (fun hb => ?_) <;> (try simp only [hb])) | (with_reducible refine And.intro (by first | omega | (simp; done) | (simp; omega)) ?_) | simp (maxSteps := 9999999) (implicitDefEqProofs := false) only [go_sem, hb, flat_at treeC_len hx] | fail))
          refine ⟨[], ⟨k + 1, hlt, by rw [List.take_add_one, hx, List.all_append, hall]; simp [hq]⟩, ?_⟩
          (iterate 2 ((try simp (maxSteps := 9999999) (implicitDefEqProofs := false) only [go_sem, true_and]); (try simp (maxSteps := 9999999) (disch := omega) only [wq])))
          (simp only [ijq, true_and, and_true]; first | done | omega | (split <;> omega) | (simp; done) | (simp; omega))
        | false =>
          rw [hq] at hi
          (repeat' (first | with_reducible (first | refine zA fun Kn hK => ?_ | refine zB (by kernel_rfl) ?_ | refine Nx.go ?_ | go_step) | (refine ⟨_, hi, ?_⟩) | with_reducible (first | refine zI ?_ | refine zJ ?_ | refine zK ?_ ?_ | refine zL ?_ ?_ | refine zR (by kernel_rfl) ?_) | simp (maxSteps := 9999999) (disch := omega) only [wq] | (with_reducible refine zM (fun hb => ?_) (fun hb => ?_) <;> (try simp only [hb])) | (with_reducible refine And.intro (by first | omega | (simp; done) | (simp; omega)) ?_) | simp (maxSteps := 9999999) (implicitDefEqProofs := false) only [go_sem, hb, flat_at treeC_len hx] | fail))
          have : v.kids.all Tree.conc = false := by
            rw [List.all_eq_false]
            exact ⟨x, hm, by rw [hq]; simp⟩
          rw [this]
      · have hb : decide ((k : Int) < (v.kids.length : Int)) = false := by simpa using hlt
        obtain rfl : k = v.kids.length := by omega
        rw [List.take_length] at hall
        (repeat' (first | with_reducible (first | refine zA fun Kn hK => ?_ | refine zB (by kernel_rfl) ?_ | refine Nx.go ?_ | go_step) | fail | with_reducible (first | refine zI ?_ | refine zJ ?_ | refine zK ?_ ?_ | refine zL ?_ ?_ | refine zR (by kernel_rfl) ?_) | simp (maxSteps := 9999999) (disch := omega) only [wq] | (with_reducible refine zM (fun hb => ?_) (fun hb => ?_) <;> (try simp only [hb])) | (with_reducible refine And.intro (by first | omega | (simp; done) | (simp; omega)) ?_) | simp (maxSteps := 9999999) (implicitDefEqProofs := false) only [go_sem, hb] | fail))
        rw [hall]
theorem rreq_m (v : Tree) {cs : List D} (hcs : treeC v = cs) (hw : v.wt ≤ 10000000) : Spec Tryz.prog G 18 [.g cs] (.one (.c (.v (.bool (v.may && v.conc))))) := by
  subst hcs
  have h1 := may_m (G := G) v rfl hw
  have h2 := rconc_m (G := G) v _ rfl hw
  rw [treeC_eq] at h1 h2 ⊢
  generalize v.may = a at *
  cases a
  all_goals
    refine spec_of Tryz.func18 rfl rfl rfl (by kernel_rfl) rfl fun K => ?_
    (repeat' (first | with_reducible (first | refine zA fun Kn hK => ?_ | refine zB (by kernel_rfl) ?_ | refine Nx.go ?_ | go_step) | (refine ⟨_, h1, ?_⟩) | (refine ⟨_, h2, ?_⟩) | with_reducible (first | refine zI ?_ | refine zJ ?_ | refine zK ?_ ?_ | refine zL ?_ ?_ | refine zR (by kernel_rfl) ?_) | simp (maxSteps := 9999999) (disch := omega) only [wq] | (with_reducible refine zM (fun hb => ?_) (fun hb => ?_) <;> (try simp only [hb])) | (with_reducible refine And.intro (by first | omega | (simp; done) | (simp; omega)) ?_) | simp (maxSteps := 9999999) (implicitDefEqProofs := false) only [go_sem, Bool.true_and, Bool.false_and] | fail))
theorem conc_m : ∀ v : Tree, ∀ cs : List D, treeC v = cs → v.wt ≤ 10000000 → v.clean = true → Spec Tryz.prog G 43 [.g cs] (.one (.c (.v (.bool v.conc)))) := Tree.ind fun v ih cs hcs hw hc => by
  subst hcs
  have h5 := v.wt_kids
  have hst := starts_m (G := G) v rfl hw hc
  have hcf : Spec Tryz.prog G 59 [.c (.sl v.kids.length (v.kids.flatMap treeC)), .c (.v (.func (.func 60) #[] #[]))] (.one (.c (.v (.bool (v.kids.any fun x => !x.conc))))) := by
    refine containsFuncSexp v.kids (fun x => !x.conc) 60 [] (by kernel_rfl) (by omega) fun x hx => ?_
    have hi := ih x hx _ rfl (by have := Tree.wt_kid hx; omega) (kid_clean hc hx)
    rw [treeC_eq] at hi ⊢
    refine spec_of Tryz.func60 rfl rfl rfl (by kernel_rfl) rfl fun K => ?_
    (repeat' (first | with_reducible (first | refine zA fun Kn hK => ?_ | refine zB (by kernel_rfl) ?_ | refine Nx.go ?_ | go_step) | (refine ⟨_, hi, ?_⟩) | with_reducible (first | refine zI ?_ | refine zJ ?_ | refine zK ?_ ?_ | refine zL ?_ ?_ | refine zR (by kernel_rfl) ?_) | simp (maxSteps := 9999999) (disch := omega) only [wq] | (with_reducible refine zM (fun hb => ?_) (fun hb => ?_) <;> (try simp only [hb])) | (with_reducible refine And.intro (by first | omega | (simp; done) | (simp; omega)) ?_) | simp (maxSteps := 9999999) (implicitDefEqProofs := false) only [go_sem, true_and] | fail))
  rw [Tree.conc_eq, ← any_not]
  have hf := clean_fair hc
  have ev := treeC_eq v
  rw [ev] at hst ⊢
  cases hl : v.list with
  | false =>
    have hk : v.kids = [] ∧ headB v wStar = false := by
      rw [Tree.fair, hl] at hf
      refine ⟨?_, by unfold headB; rw [hl]; rfl⟩
      simp at hf
      exact hf.1
    rw [hk.1, hk.2]
    refine spec_of Tryz.func43 rfl rfl rfl (by kernel_rfl) rfl fun K => ?_
    (repeat' (first | with_reducible (first | refine zA fun Kn hK => ?_ | refine zB (by kernel_rfl) ?_ | refine Nx.go ?_ | go_step) | fail | with_reducible (first | refine zI ?_ | refine zJ ?_ | refine zK ?_ ?_ | refine zL ?_ ?_ | refine zR (by kernel_rfl) ?_) | simp (maxSteps := 9999999) (disch := omega) only [wq] | (with_reducible refine zM (fun hb => ?_) (fun hb => ?_) <;> (try simp only [hb])) | (with_reducible refine And.intro (by first | omega | (simp; done) | (simp; omega)) ?_) | simp (maxSteps := 9999999) (implicitDefEqProofs := false) only [go_sem, true_and] | fail))
    all_goals (try simp)
  | true =>
    have hh : v.hinted = false := by
      rw [Tree.fair, hl] at hf
      simp at hf
      exact hf.1.1
    rw [hl] at hst
    rw [hh] at hst ⊢
    generalize headB v wStar = b at *
    generalize (v.kids.any fun x => !x.conc) = q at *
    cases b
    all_goals
      refine spec_of Tryz.func43 rfl rfl rfl (by kernel_rfl) rfl fun K => ?_
      (repeat' (first | with_reducible (first | refine zA fun Kn hK => ?_ | refine zB (by kernel_rfl) ?_ | refine Nx.go ?_ | go_step) | (refine ⟨_, hst, ?_⟩) | (refine ⟨_, hcf, ?_⟩) | with_reducible (first | refine zI ?_ | refine zJ ?_ | refine zK ?_ ?_ | refine zL ?_ ?_ | refine zR (by kernel_rfl) ?_) | simp (maxSteps := 9999999) (disch := omega) only [wq] | (with_reducible refine zM (fun hb => ?_) (fun hb => ?_) <;> (try simp only [hb])) | (with_reducible refine And.intro (by first | omega | (simp; done) | (simp; omega)) ?_) | simp (maxSteps := 9999999) (implicitDefEqProofs := false) only [go_sem, true_and] | fail))
      all_goals (try simp)
theorem req_m (hG : G 2 = some powD) (v : Tree) {cs : List D} (hcs : treeC v = cs) (hw : v.wt ≤ 10000000) : Spec Tryz.prog G 17 [.g cs] (.one (.c (.v (.bool (v.may && v.conc))))) := by
  subst hcs
  have h1 := sxmay_m (G := G) hG v rfl hw
  have h2 : v.may = true → Spec Tryz.prog G 43 [.g (treeC v)] (.one (.c (.v (.bool v.conc)))) := fun h => conc_m (G := G) v _ rfl hw (by
    simp only [Tree.may, Bool.and_eq_true] at h
    exact h.1.1.1)
  rw [treeC_eq] at h1 h2 ⊢
  cases hm : v.may with
  | false =>
    rw [hm] at h1
    refine spec_of Tryz.func17 rfl rfl rfl (by kernel_rfl) rfl fun K => ?_
    (repeat' (first | with_reducible (first | refine zA fun Kn hK => ?_ | refine zB (by kernel_rfl) ?_ | refine Nx.go ?_ | go_step) | (refine ⟨_, h1, ?_⟩) | with_reducible (first | refine zI ?_ | refine zJ ?_ | refine zK ?_ ?_ | refine zL ?_ ?_ | refine zR (by kernel_rfl) ?_) | simp (maxSteps := 9999999) (disch := omega) only [wq] | (with_reducible refine zM (fun hb => ?_) (fun hb => ?_) <;> (try simp only [hb])) | (with_reducible refine And.intro (by first | omega | (simp; done) | (simp; omega)) ?_) | simp (maxSteps := 9999999) (implicitDefEqProofs := false) only [go_sem, Bool.true_and, Bool.false_and] | fail))
  | true =>
    rw [hm] at h1
    have h2 := h2 hm
    refine spec_of Tryz.func17 rfl rfl rfl (by kernel_rfl) rfl fun K => ?_
    (repeat' (first | with_reducible (first | refine zA fun Kn hK => ?_ | refine zB (by kernel_rfl) ?_ | refine Nx.go ?_ | go_step) | (refine ⟨_, h1, ?_⟩) | (refine ⟨_, h2, ?_⟩) | with_reducible (first | refine zI ?_ | refine zJ ?_ | refine zK ?_ ?_ | refine zL ?_ ?_ | refine zR (by kernel_rfl) ?_) | simp (maxSteps := 9999999) (disch := omega) only [wq] | (with_reducible refine zM (fun hb => ?_) (fun hb => ?_) <;> (try simp only [hb])) | (with_reducible refine And.intro (by first | omega | (simp; done) | (simp; omega)) ?_) | simp (maxSteps := 9999999) (implicitDefEqProofs := false) only [go_sem, Bool.true_and, Bool.false_and] | fail))
noncomputable def sameLT (l m : List Tg) : Bool := @decide (l = m) (Classical.propDecidable _)
theorem sameLT_t {l m : List Tg} (h : l = m) : sameLT l m = true := by
  unfold sameLT
  exact @decide_eq_true _ (Classical.propDecidable _) h
theorem sameLT_f {l m : List Tg} (h : l ≠ m) : sameLT l m = false := by
  unfold sameLT
  exact @decide_eq_false _ (Classical.propDecidable _) h
theorem eqfuncT_m (l m : List Tg) (hl : l.length ≤ 100000000)
    (ih : ∀ x ∈ l, ∀ (u : Tg) (cs ds : List D), tagC x = cs → tagC u = ds → Spec Tryz.prog G 15 [.g cs, .g ds] (.one (.c (.v (.bool (x.same u)))))) :
    Spec Tryz.prog G 42 [.c (.sl l.length (l.flatMap tagC)), .c (.sl m.length (m.flatMap tagC)), .c (.v (.func (.func 15) #[] #[]))] (.one (.c (.v (.bool (sameLT l m))))) := by
  refine spec_of Tryz.func42 rfl rfl rfl (by kernel_rfl) rfl fun K => ?_
  by_cases hn : l.length = m.length
  · have d1 : ((l.length : Int) == (m.length : Int)) = true := by simp [hn]
    (repeat' (first | with_reducible (first | refine zA fun Kn hK => ?_ | refine zB (by kernel_rfl) ?_ | refine Nx.go ?_ | go_step) | fail | with_reducible (first | refine zI ?_ | refine zJ ?_ | refine zK ?_ ?_ | refine zL ?_ ?_ | refine zR (by kernel_rfl) ?_) | simp (maxSteps := 9999999) (disch := omega) only [wq] | (with_reducible refine zM (fun hb => ?_) (fun hb => ?_) <;> (try simp only [hb])) | (with_reducible refine And.intro (by first | omega | (simp; done) | (simp; omega)) ?_) | simp (maxSteps := 9999999) (implicitDefEqProofs := false) only [go_sem, d1] | fail))
    refine sound_loopR (fun x : {k : Nat // k ≤ l.length ∧ l.take k = m.take k} => ⟨[(1, vD (.sl m.length (m.flatMap tagC))), (2, vD (.v (.func (.func 15) #[] #[]))), (15, vD (.sl l.length (l.flatMap tagC))), (16, vI l.length), (17, vI x.1)], []⟩) (fun x => l.length - x.1) ⟨0, by simp⟩ [] (by (iterate 2 ((try simp (maxSteps := 9999999) (implicitDefEqProofs := false) only [go_sem, true_and]); (try simp (maxSteps := 9999999) (disch := omega) only [wq]))); try simp) (fun ⟨k, hk, hall⟩ => ?_)
    by_cases hlt : k < l.length
    · obtain ⟨x, hx⟩ : ∃ x, l[k]? = some x := ⟨_, List.getElem?_eq_getElem hlt⟩
      obtain ⟨y, hy⟩ : ∃ y, m[k]? = some y := ⟨_, List.getElem?_eq_getElem (by omega)⟩
      have hb : decide ((k : Int) < (l.length : Int)) = true := by simpa using hlt
      have hlm : k < m.length := by omega
      (repeat' (first | with_reducible (first | refine zA fun Kn hK => ?_ | refine zB (by kernel_rfl) ?_ | refine Nx.go ?_ | go_step) | (refine ⟨_, ih x (List.mem_of_getElem? hx) y _ _ rfl rfl, ?_⟩) | with_reducible (first | refine zI ?_ | refine zJ ?_ | refine zK ?_ ?_ | refine zL ?_ ?_ | refine zR (by kernel_rfl) ?_) | simp (maxSteps := 9999999) (disch := omega) only [wq] | (with_reducible refine zM (fun hb => ?_) (fun hb => ?_) <;> (try simp only [hb])) | (with_reducible refine And.intro (by first | omega | (simp; done) | (simp; omega)) ?_) | simp (maxSteps := 9999999) (implicitDefEqProofs := false) only [go_sem, hb, flat_at tagC_len hx, flat_at tagC_len hy, List.length_map] | fail))
      · refine ⟨[], ⟨k + 1, hlt, ?_⟩, ?_⟩
        · rw [List.take_add_one, List.take_add_one, hx, hy, hall, tsame_of hb]
        · (iterate 2 ((try simp (maxSteps := 9999999) (implicitDefEqProofs := false) only [go_sem, true_and]); (try simp (maxSteps := 9999999) (disch := omega) only [wq])))
          try (simp only [ijq, true_and, and_true]; first | done | omega | (split <;> omega) | (simp; done) | (simp; omega))
      · rw [sameLT_f]
        rintro rfl
        rw [hx] at hy
        injection hy with hy
        rw [tsame_t hy] at hb
        cases hb
    · have hb : decide ((k : Int) < (l.length : Int)) = false := by simpa using hlt
      obtain rfl : k = l.length := by omega
      rw [List.take_length, hn, List.take_length] at hall
      (repeat' (first | with_reducible (first | refine zA fun Kn hK => ?_ | refine zB (by kernel_rfl) ?_ | refine Nx.go ?_ | go_step) | fail | with_reducible (first | refine zI ?_ | refine zJ ?_ | refine zK ?_ ?_ | refine zL ?_ ?_ | refine zR (by kernel_rfl) ?_) | simp (maxSteps := 9999999) (disch := omega) only [wq] | (with_reducible refine zM (fun hb => ?_) (fun hb => ?_) <;> (try simp only [hb])) | (with_reducible refine And.intro (by first | omega | (simp; done) | (simp; omega)) ?_) | simp (maxSteps := 9999999) (implicitDefEqProofs := false) only [go_sem, hb] | fail))
      rw [sameLT_t hall]
  · have d1 : ((l.length : Int) == (m.length : Int)) = false := by
      rw [beq_eq_false_iff_ne]
      omega
    (repeat' (first | with_reducible (first | refine zA fun Kn hK => ?_ | refine zB (by kernel_rfl) ?_ | refine Nx.go ?_ | go_step) | fail | with_reducible (first | refine zI ?_ | refine zJ ?_ | refine zK ?_ ?_ | refine zL ?_ ?_ | refine zR (by kernel_rfl) ?_) | simp (maxSteps := 9999999) (disch := omega) only [wq] | (with_reducible refine zM (fun hb => ?_) (fun hb => ?_) <;> (try simp only [hb])) | (with_reducible refine And.intro (by first | omega | (simp; done) | (simp; omega)) ?_) | simp (maxSteps := 9999999) (implicitDefEqProofs := false) only [go_sem, d1] | fail))
    rw [sameLT_f]
    rintro rfl
    exact hn rfl
theorem tsame_m : ∀ (t u : Tg) (cs ds : List D), tagC t = cs → tagC u = ds → t.wt ≤ 10000000 → Spec Tryz.prog G 15 [.g cs, .g ds] (.one (.c (.v (.bool (t.same u))))) := Tg.ind fun t ih u cs ds hcs hds hw => by
  subst hcs hds
  have hr := prsame_m (G := G) t.ord t.lo t.hi u.ord u.lo u.hi
  have hi := rgSame_iff (o := t.ord) (a := t.lo) (b := t.hi) (o' := u.ord) (a' := u.lo) (b' := u.hi)
  have he := u8_beq t.kind u.kind
  have hq := equal_m (G := G) t.data u.data
  have hlk := t.wt_kids
  have hk := eqfuncT_m (G := G) t.kids u.kids (by omega) (fun x hx v cs ds h1 h2 => ih x hx v cs ds h1 h2 (by have := Tg.wt_kid hx; omega))
  have hs : t.same u = (t.kind == u.kind && (t.data == u.data) && rgSame t.ord t.lo t.hi u.ord u.lo u.hi && sameLT t.kids u.kids) := by
    rw [Bool.eq_iff_iff]
    simp only [Bool.and_eq_true, beq_iff_eq]
    refine ⟨fun h => ?_, fun ⟨⟨⟨h1, h2⟩, h3⟩, h4⟩ => ?_⟩
    · cases tsame_of h
      exact ⟨⟨⟨rfl, rfl⟩, hi.2 ⟨rfl, rfl, rfl⟩⟩, sameLT_t rfl⟩
    · refine tsame_t (Tg.ext_iff.2 ⟨h1, h2, hi.1 h3, ?_⟩)
      refine Classical.byContradiction fun hn => ?_
      rw [sameLT_f hn] at h4
      cases h4
  rw [hs]
  clear hs hi ih
  rw [tagC_eq t, tagC_eq u]
  generalize rgSame t.ord t.lo t.hi u.ord u.lo u.hi = q3 at *
  generalize sameLT t.kids u.kids = q4 at *
  generalize (t.data == u.data) = q2 at *
  generalize (t.kind == u.kind) = q1 at *
  unfold rgD bD bytesD at *
  cases q1 <;> cases q2 <;> cases q3
  all_goals
    refine spec_of Tryz.func15 rfl rfl rfl (by kernel_rfl) rfl fun K => ?_
    (repeat' (first | with_reducible (first | refine zA fun Kn hK => ?_ | refine zB (by kernel_rfl) ?_ | refine Nx.go ?_ | go_step) | (refine ⟨_, hq, ?_⟩) | (refine ⟨_, hr, ?_⟩) | (refine ⟨_, hk, ?_⟩) | with_reducible (first | refine zI ?_ | refine zJ ?_ | refine zK ?_ ?_ | refine zL ?_ ?_ | refine zR (by kernel_rfl) ?_) | simp (maxSteps := 9999999) (disch := omega) only [wq] | (with_reducible refine zM (fun hb => ?_) (fun hb => ?_) <;> (try simp only [hb])) | (with_reducible refine And.intro (by first | omega | (simp; done) | (simp; omega)) ?_) | simp (maxSteps := 9999999) (implicitDefEqProofs := false) only [go_sem, he] | fail))
    all_goals (try rfl)
end
end Go.Proofs.YtbeghpkkpnbkgaaGreatDoor
/- Tags: the document's tag of a value, on. -/
namespace Go.Proofs.YtbeghpkkpnbkgaaGreatDoor
open Go.RowKit
theorem ordW_drop {k : Nat} (h1 : 1 ≤ k) (h2 : k ≤ 5) : ordW.drop (k - 1) = ordN (UInt8.ofNat k) :: ordW.drop k := by
  match k, h1, h2 with
  | 1, _, _ | 2, _, _ | 3, _, _ | 4, _, _ | 5, _, _ => rfl
section
variable {G : Nat → Option (List D)}
theorem rranged12_m (l : List Tree) (hl : l.length ≤ 100000000) (hd : ∀ x ∈ l, x.data.length ≤ 1000000000) : ∃ u, TagR G 70 (.c (.sl l.length (l.flatMap treeC))) (rangeT isV l) u := by
  match l, hl, hd with
  | [], _, _ =>
    refine ⟨zTg, ⟨fun p h => (by cases h), ?_⟩⟩
    rw [show rangeT isV [] = none from rfl, zTg, tagC_mk]
    have d : (((([] : List Tree).length : Nat) : Int) == 0) = true := rfl
    generalize ([] : List Tree) = L at *
    refine spec_of Tryz.func70 rfl rfl rfl (by kernel_rfl) rfl fun K => ?_
    (repeat' (first | with_reducible (first | refine zA fun Kn hK => ?_ | refine zB (by kernel_rfl) ?_ | refine Nx.go ?_ | go_step) | fail | with_reducible (first | refine zI ?_ | refine zJ ?_ | refine zK ?_ ?_ | refine zL ?_ ?_ | refine zR (by kernel_rfl) ?_) | simp (maxSteps := 9999999) (disch := omega) only [wq] | (with_reducible refine zM (fun hb => ?_) (fun hb => ?_) <;> (try simp only [hb])) | (with_reducible refine And.intro (by first | omega | (simp; done) | (simp; omega)) ?_) | simp (maxSteps := 9999999) (implicitDefEqProofs := false) only [go_sem, d, bD, bytesD, Bd.none, Option.isSome_none] | fail))
    rfl
  | x :: l, hl, hd =>
    have hx : (x :: l)[0]? = some x := rfl
    have f0 := flat_at (f := treeC) treeC_len hx
    simp only [Nat.zero_mul, List.drop_zero] at f0
    have n0 : (((x :: l).length : Int) == 0) = false := by rw [beq_eq_false_iff_ne, List.length_cons]; omega
    have n1 : (0 : Int) < ((x :: l).length : Int) := by rw [List.length_cons]; omega
    have n1' : 0 < (x :: l).length := by rw [List.length_cons]; omega
    have n2 : 1 ≤ (x :: l).length := by rw [List.length_cons]; omega
    have dr := flat_drop (f := treeC) treeC_len (x :: l) 1
    have dl : (x :: l).length - 1 = l.length := by simp
    have dl2 : (((x :: l).length : Int) - 1) = (l.length : Int) := by rw [List.length_cons]; omega
    have hdr : (x :: l).drop 1 = l := rfl
    rw [hdr] at dr
    simp only [Nat.one_mul] at dr
    have hd2 : ∀ y ∈ l, y.data.length ≤ 1000000000 := fun y hy => hd y (by simp [hy])
    have hl2 : l.length ≤ 100000000 := by rw [List.length_cons] at hl; omega
    have hname : ∀ k : Nat, 1 ≤ k → k ≤ 5 → Spec Tryz.prog G 29 [.c (.v (.int .u8 (k : Int)))] (.one (.c (.v (.string ⟨(ordN (UInt8.ofNat k)).toArray⟩)))) := fun k h1 h2 => by
      have e : (UInt8.ofNat k).toNat = k := UInt8.toNat_ofNat_of_lt' (by simp only [UInt8.size]; omega)
      have h := rname_m (G := G) (UInt8.ofNat k) (by rw [e]; exact ⟨h1, h2⟩)
      unfold bD at h
      rw [e] at h
      exact h
    have his := fun w => isref_m (G := G) x rfl w
    have hR : ∀ o, rangeT isV (x :: l) = o → o = match findW x ordW 1 with
        | none => none
        | some o => match endT l wG with
          | none => none
          | some (lo, l1) => match endT l1 wL with
            | none => none
            | some (hi, l2) => if emptyL l2 && mayR isV (UInt8.ofNat o) lo hi then some (.mk 6 [] [] (UInt8.ofNat o) lo hi) else none := fun o h => by rw [← h]; rfl
    clear hd hdr hx
    generalize hRo : rangeT isV (x :: l) = R at *
    have hR := hR R rfl
    generalize x :: l = L at *
    cases hF : findW x ordW 1 with
    | none =>
      rw [hF] at hR
      subst hR
      refine ⟨zTg, ⟨fun p h => (by cases h), ?_⟩⟩
      rw [zTg, tagC_mk]
      refine spec_of Tryz.func70 rfl rfl rfl (by kernel_rfl) rfl fun K => ?_
      (repeat' (first | with_reducible (first | refine zA fun Kn hK => ?_ | refine zB (by kernel_rfl) ?_ | refine Nx.go ?_ | go_step) | fail | with_reducible (first | refine zI ?_ | refine zJ ?_ | refine zK ?_ ?_ | refine zL ?_ ?_ | refine zR (by kernel_rfl) ?_) | simp (maxSteps := 9999999) (disch := omega) only [wq] | (with_reducible refine zM (fun hb => ?_) (fun hb => ?_) <;> (try simp only [hb])) | (with_reducible refine And.intro (by first | omega | (simp; done) | (simp; omega)) ?_) | simp (maxSteps := 9999999) (implicitDefEqProofs := false) only [go_sem, n0, bD, bytesD, Bd.none, Option.isSome_none] | fail))
      refine sound_loopR (fun x_1 : {k : Nat // 1 ≤ k ∧ k ≤ 6 ∧ findW x ordW 1 = findW x (ordW.drop (k - 1)) k} => ⟨[(0, vD (.sl L.length (L.flatMap treeC))), (2, vP 2 0), (4, .a (.c (.d (.v (.int .u8 (x_1.1 : Int))))))], [(2, some ⟨34, zeroOf Tryz.prog 34, true, false⟩)]⟩) (fun x => 6 - x.1) ⟨1, by simp⟩ [] (by (iterate 2 ((try simp (maxSteps := 9999999) (implicitDefEqProofs := false) only [go_sem, true_and]); (try simp (maxSteps := 9999999) (disch := omega) only [wq]))); try simp) (fun ⟨k, h1, h2, hk⟩ => ?_)
      by_cases hlt : k ≤ 5
      · have hb : decide ((k : Int) ≤ 5) = true := by simp; omega
        have hn := hname k h1 hlt
        have hi := his (ordN (UInt8.ofNat k))
        rw [ordW_drop h1 hlt, findW] at hk
        generalize ordN (UInt8.ofNat k) = w at *
        cases hq : isB x w with
        | true =>
          rw [hq, if_pos rfl, hF] at hk
          cases hk
        | false =>
          rw [hq] at hi
          rw [hq, if_neg (by simp)] at hk
          (repeat' (first | with_reducible (first | refine zA fun Kn hK => ?_ | refine zB (by kernel_rfl) ?_ | refine Nx.go ?_ | go_step) | (refine ⟨_, hn, ?_⟩) | (refine ⟨_, hi, ?_⟩) | with_reducible (first | refine zI ?_ | refine zJ ?_ | refine zK ?_ ?_ | refine zL ?_ ?_ | refine zR (by kernel_rfl) ?_) | simp (maxSteps := 9999999) (disch := omega) only [wq] | (with_reducible refine zM (fun hb => ?_) (fun hb => ?_) <;> (try simp only [hb])) | (with_reducible refine And.intro (by first | omega | (simp; done) | (simp; omega)) ?_) | simp (maxSteps := 9999999) (implicitDefEqProofs := false) only [go_sem, hb, n1, n1', f0] | fail))
          refine ⟨[], ⟨k + 1, by omega, by omega, by rw [Nat.add_sub_cancel]; exact hk⟩, ?_⟩
          (iterate 2 ((try simp (maxSteps := 9999999) (implicitDefEqProofs := false) only [go_sem, true_and]); (try simp (maxSteps := 9999999) (disch := omega) only [wq])))
          (simp only [ijq, true_and, and_true]; first | done | omega | (split <;> omega) | (simp; done) | (simp; omega))
      · have hb : decide ((k : Int) ≤ 5) = false := by simp; omega
        (repeat' (first | with_reducible (first | refine zA fun Kn hK => ?_ | refine zB (by kernel_rfl) ?_ | refine Nx.go ?_ | go_step) | fail | with_reducible (first | refine zI ?_ | refine zJ ?_ | refine zK ?_ ?_ | refine zL ?_ ?_ | refine zR (by kernel_rfl) ?_) | simp (maxSteps := 9999999) (disch := omega) only [wq] | (with_reducible refine zM (fun hb => ?_) (fun hb => ?_) <;> (try simp only [hb])) | (with_reducible refine And.intro (by first | omega | (simp; done) | (simp; omega)) ?_) | simp (maxSteps := 9999999) (implicitDefEqProofs := false) only [go_sem, hb, n1, n1', f0, bD] | fail))
        try rfl
    | some o =>
      obtain ⟨lo, l1, E1⟩ := rend12_m (G := G) l wG (by decide) hl2
      obtain ⟨hi, l2, E2⟩ := rend12_m (G := G) l1 wL (by decide) (by have := E1.len; omega)
      have ho : 1 ≤ o ∧ o ≤ 5 := by
        have : ∀ (ws : List (List UInt8)) (k : Nat), findW x ws k = some o → k ≤ o ∧ o < k + ws.length := by
          intro ws
          induction ws with
          | nil => intro k h; cases h
          | cons w ws ih =>
            intro k h
            rw [findW] at h
            split at h
            · injection h with h
              rw [List.length_cons]
              omega
            · have := ih _ h
              rw [List.length_cons]
              omega
        have h := this ordW 1 hF
        have : ordW.length = 5 := rfl
        omega
      have eo : ((UInt8.ofNat o).toNat : Int) = (o : Int) := by
        rw [UInt8.toNat_ofNat_of_lt' (by simp only [UInt8.size]; omega)]
      have hsome : R.isSome = ((endT l wG).isSome && ((endT l1 wL).isSome && (emptyL l2 && mayR isV (UInt8.ofNat o) lo hi))) ∧ ∀ p, R = some p → p = .mk 6 [] [] (UInt8.ofNat o) lo hi := by
        rw [hR, hF]
        dsimp only
        cases h1 : endT l wG with
        | none => exact ⟨rfl, fun p h => by cases h⟩
        | some q1 =>
          have e1 := E1.is q1 h1
          subst e1
          dsimp only
          cases h2 : endT l1 wL with
          | none => exact ⟨rfl, fun p h => by cases h⟩
          | some q2 =>
            have e2 := E2.is q2 h2
            subst e2
            dsimp only
            cases emptyL l2 && mayR isV (UInt8.ofNat o) lo hi with
            | false => exact ⟨rfl, fun p h => by cases h⟩
            | true => exact ⟨rfl, fun p h => by injection h with h; exact h.symm⟩
      refine ⟨_, ⟨hsome.2, ?_⟩⟩
      rw [hsome.1, tagC_mk]
      have tx : ∀ (b : Bd) (k : List Tree), (∀ y ∈ k, y.data.length ≤ 1000000000) → (b.txt = [] ∨ ∃ y ∈ k, b.txt = y.data) → b.txt.length ≤ 1000000000 := fun b k hk h => by
        rcases h with h | ⟨y, hy, h⟩ <;> rw [h]
        · simp
        · exact hk y hy
      have hm := rmay11_m (G := G) (UInt8.ofNat o) lo hi (tx lo l hd2 E1.txt) (tx hi l1 (fun y hy => hd2 y (E1.mem y hy)) E2.txt)
      have e1 := E1.spec
      have e2 := E2.spec
      have e0 := len0_empty l2
      clear hsome E1 E2 tx hR hRo
      generalize (endT l wG).isSome = p1 at *
      generalize (endT l1 wL).isSome = p2 at *
      unfold wG at e1
      unfold wL at e2
      unfold bdD at e1 e2 hm
      generalize mayR isV (UInt8.ofNat o) lo hi = q at *
      unfold bD at hm ⊢
      rw [eo] at hm ⊢
      generalize emptyL l2 = z at *
      refine spec_of Tryz.func70 rfl rfl rfl (by kernel_rfl) rfl fun K => ?_
      (repeat' (first | with_reducible (first | refine zA fun Kn hK => ?_ | refine zB (by kernel_rfl) ?_ | refine Nx.go ?_ | go_step) | fail | with_reducible (first | refine zI ?_ | refine zJ ?_ | refine zK ?_ ?_ | refine zL ?_ ?_ | refine zR (by kernel_rfl) ?_) | simp (maxSteps := 9999999) (disch := omega) only [wq] | (with_reducible refine zM (fun hb => ?_) (fun hb => ?_) <;> (try simp only [hb])) | (with_reducible refine And.intro (by first | omega | (simp; done) | (simp; omega)) ?_) | simp (maxSteps := 9999999) (implicitDefEqProofs := false) only [go_sem, n0, bD, bytesD] | fail))
      refine sound_loopR (fun x_1 : {k : Nat // 1 ≤ k ∧ k ≤ 6 ∧ findW x ordW 1 = findW x (ordW.drop (k - 1)) k} => ⟨[(0, vD (.sl L.length (L.flatMap treeC))), (2, vP 2 0), (4, .a (.c (.d (.v (.int .u8 (x_1.1 : Int))))))], [(2, some ⟨34, zeroOf Tryz.prog 34, true, false⟩)]⟩) (fun x => 6 - x.1) ⟨1, by simp⟩ [] (by (iterate 2 ((try simp (maxSteps := 9999999) (implicitDefEqProofs := false) only [go_sem, true_and]); (try simp (maxSteps := 9999999) (disch := omega) only [wq]))); try simp) (fun ⟨k, h1, h2, hk⟩ => ?_)
      by_cases hlt : k ≤ 5
      · have hb : decide ((k : Int) ≤ 5) = true := by simp; omega
        have hn := hname k h1 hlt
        have hi' := his (ordN (UInt8.ofNat k))
        rw [ordW_drop h1 hlt, findW] at hk
        generalize ordN (UInt8.ofNat k) = w at *
        cases hq : isB x w with
        | true =>
          rw [hq, if_pos rfl, hF] at hk
          injection hk with hk
          subst hk
          rw [hq] at hi'
          cases p1 <;> cases p2 <;> cases z
          all_goals
            (repeat' (first | with_reducible (first | refine zA fun Kn hK => ?_ | refine zB (by kernel_rfl) ?_ | refine Nx.go ?_ | go_step) | (refine ⟨_, hn, ?_⟩) | (refine ⟨_, hi', ?_⟩) | (refine ⟨_, e1, ?_⟩) | (refine ⟨_, e2, ?_⟩) | (refine ⟨_, hm, ?_⟩) | with_reducible (first | refine zI ?_ | refine zJ ?_ | refine zK ?_ ?_ | refine zL ?_ ?_ | refine zR (by kernel_rfl) ?_) | simp (maxSteps := 9999999) (disch := omega) only [wq] | (with_reducible refine zM (fun hb => ?_) (fun hb => ?_) <;> (try simp only [hb])) | (with_reducible refine And.intro (by first | omega | (simp; done) | (simp; omega)) ?_) | simp (maxSteps := 9999999) (implicitDefEqProofs := false) only [go_sem, hb, n1, n1', n2, dr, dl, dl2, e0, f0, decide_true] | fail))
            all_goals rfl
        | false =>
          rw [hq] at hi'
          rw [hq, if_neg (by simp)] at hk
          (repeat' (first | with_reducible (first | refine zA fun Kn hK => ?_ | refine zB (by kernel_rfl) ?_ | refine Nx.go ?_ | go_step) | (refine ⟨_, hn, ?_⟩) | (refine ⟨_, hi', ?_⟩) | with_reducible (first | refine zI ?_ | refine zJ ?_ | refine zK ?_ ?_ | refine zL ?_ ?_ | refine zR (by kernel_rfl) ?_) | simp (maxSteps := 9999999) (disch := omega) only [wq] | (with_reducible refine zM (fun hb => ?_) (fun hb => ?_) <;> (try simp only [hb])) | (with_reducible refine And.intro (by first | omega | (simp; done) | (simp; omega)) ?_) | simp (maxSteps := 9999999) (implicitDefEqProofs := false) only [go_sem, hb, n1, n1', f0] | fail))
          refine ⟨[], ⟨k + 1, by omega, by omega, by rw [Nat.add_sub_cancel]; exact hk⟩, ?_⟩
          (iterate 2 ((try simp (maxSteps := 9999999) (implicitDefEqProofs := false) only [go_sem, true_and]); (try simp (maxSteps := 9999999) (disch := omega) only [wq])))
          (simp only [ijq, true_and, and_true]; first | done | omega | (split <;> omega) | (simp; done) | (simp; omega))
      · exfalso
        obtain rfl : k = 6 := by omega
        rw [hF] at hk
        cases hk
theorem rget12_m : ∀ v : Tree, ∀ cs : List D, treeC v = cs → v.wt ≤ 10000000 → ∃ u, TagR G 48 (.g cs) (getT isV v) u := Tree.ind fun v ih cs hcs hw => by
  subst hcs
  have hh := headref_m (G := G) v rfl wStar
  have h5 := v.wt_kids
  have hd : ∀ x ∈ v.kids, x.data.length ≤ 1000000000 := fun x hx => by
    have h1 := Tree.wt_kid hx
    have h2 := Tree.wt_data x
    omega
  have htg : ∀ k, Spec Tryz.prog G 68 [.c (.sl (v.kids.drop k).length ((v.kids.drop k).flatMap treeC))] (.many [.c (.sl (preS ((v.kids.drop k).map (getT isV))).length ((preS ((v.kids.drop k).map (getT isV))).flatMap tagC)), .c (.v (.bool (allSome ((v.kids.drop k).map (getT isV))).isSome))]) := fun k => by
    refine rtags12_w (getT isV) (v.kids.drop k) (by rw [List.length_drop]; omega) fun x hx => ?_
    have hx := List.mem_of_mem_drop hx
    exact ih x hx _ rfl (by have := Tree.wt_kid hx; omega)
  clear ih
  rw [getT_eq]
  have ev := treeC_eq v
  rw [ev] at hh ⊢
  unfold wStar at hh
  cases hl : v.list with
  | false =>
    rw [if_neg (by simp)]
    rw [hl] at hh
    refine ⟨aTg v.data, ⟨fun p h => ?_, ?_⟩⟩
    · cases hb : v.hinted <;> rw [hb] at h
      · rw [if_neg (by simp)] at h
        injection h with h
        exact h.symm
      · rw [if_pos rfl] at h
        cases h
    · rw [aTg, tagC_mk]
      cases hb : v.hinted
      · rw [if_neg (by simp)]
        refine spec_of Tryz.func48 rfl rfl rfl (by kernel_rfl) rfl fun K => ?_
        (repeat' (first | with_reducible (first | refine zA fun Kn hK => ?_ | refine zB (by kernel_rfl) ?_ | refine Nx.go ?_ | go_step) | fail | with_reducible (first | refine zI ?_ | refine zJ ?_ | refine zK ?_ ?_ | refine zL ?_ ?_ | refine zR (by kernel_rfl) ?_) | simp (maxSteps := 9999999) (disch := omega) only [wq] | (with_reducible refine zM (fun hb => ?_) (fun hb => ?_) <;> (try simp only [hb])) | (with_reducible refine And.intro (by first | omega | (simp; done) | (simp; omega)) ?_) | simp (maxSteps := 9999999) (implicitDefEqProofs := false) only [go_sem, bD, bytesD, Bd.none, Option.isSome_some] | fail))
        all_goals rfl
      · rw [if_pos rfl]
        refine spec_of Tryz.func48 rfl rfl rfl (by kernel_rfl) rfl fun K => ?_
        (repeat' (first | with_reducible (first | refine zA fun Kn hK => ?_ | refine zB (by kernel_rfl) ?_ | refine Nx.go ?_ | go_step) | fail | with_reducible (first | refine zI ?_ | refine zJ ?_ | refine zK ?_ ?_ | refine zL ?_ ?_ | refine zR (by kernel_rfl) ?_) | simp (maxSteps := 9999999) (disch := omega) only [wq] | (with_reducible refine zM (fun hb => ?_) (fun hb => ?_) <;> (try simp only [hb])) | (with_reducible refine And.intro (by first | omega | (simp; done) | (simp; omega)) ?_) | simp (maxSteps := 9999999) (implicitDefEqProofs := false) only [go_sem, bD, bytesD, Bd.none, Option.isSome_none] | fail))
        all_goals rfl
  | true =>
    rw [if_pos rfl]
    rw [hl] at hh
    cases hb : headB v wStar with
    | false =>
      unfold wStar at hb
      rw [hb] at hh
      rw [if_neg (by simp)]
      have hs := htg 0
      simp only [List.drop_zero] at hs
      have hp : ∀ p, allSome (v.kids.map (getT isV)) = some p → p = preS (v.kids.map (getT isV)) := fun p h => preS_of h
      generalize preS (v.kids.map (getT isV)) = P at *
      generalize allSome (v.kids.map (getT isV)) = A at *
      refine ⟨kTg 3 P, ⟨fun p h => ?_, ?_⟩⟩
      · obtain ⟨q, hq, rfl⟩ := Option.map_eq_some_iff.1 h
        rw [hp q hq]
      · rw [kTg, tagC_mk]
        cases A
        all_goals
          refine spec_of Tryz.func48 rfl rfl rfl (by kernel_rfl) rfl fun K => ?_
          (repeat' (first | with_reducible (first | refine zA fun Kn hK => ?_ | refine zB (by kernel_rfl) ?_ | refine Nx.go ?_ | go_step) | (refine ⟨_, hh, ?_⟩) | (refine ⟨_, hs, ?_⟩) | with_reducible (first | refine zI ?_ | refine zJ ?_ | refine zK ?_ ?_ | refine zL ?_ ?_ | refine zR (by kernel_rfl) ?_) | simp (maxSteps := 9999999) (disch := omega) only [wq] | (with_reducible refine zM (fun hb => ?_) (fun hb => ?_) <;> (try simp only [hb])) | (with_reducible refine And.intro (by first | omega | (simp; done) | (simp; omega)) ?_) | simp (maxSteps := 9999999) (implicitDefEqProofs := false) only [go_sem, bD, bytesD, Bd.none] | fail))
          all_goals rfl
    | true =>
      have hk : v.kids ≠ [] := fun e => by
        unfold headB at hb
        rw [e] at hb
        simp at hb
      unfold wStar at hb
      rw [hb] at hh
      rw [if_pos rfl]
      have n9 : 1 ≤ v.kids.length := List.length_pos_iff.2 hk
      have er := flat_drop (f := treeC) treeC_len v.kids 1
      have el : v.kids.length - 1 = (v.kids.drop 1).length := by rw [List.length_drop]
      have el2 : ((v.kids.length : Int) - 1) = ((v.kids.drop 1).length : Int) := by rw [List.length_drop]; omega
      simp only [Nat.one_mul] at er
      have hs := htg 2
      have hM2 : v.kids.drop 2 = (v.kids.drop 1).drop 1 := by rw [List.drop_drop]
      have hMm : (v.kids.map (getT isV)).drop 2 = ((v.kids.drop 1).drop 1).map (getT isV) := by rw [← List.map_drop, hM2]
      have hdM : ∀ x ∈ v.kids.drop 1, x.data.length ≤ 1000000000 := fun x hx => hd x (List.mem_of_mem_drop hx)
      have hlM : (v.kids.drop 1).length ≤ 10000000 := by rw [List.length_drop]; omega
      rw [hM2] at hs
      rw [hMm]
      clear hM2 hMm htg hd
      generalize v.kids.drop 1 = M at *
      match M, hs, el, el2, er, hdM, hlM with
      | [], hs, el, el2, er, hdM, hlM =>
        have d : (((([] : List Tree).length : Nat) : Int) == 0) = true := rfl
        rw [show ∀ s, starT isV [] s = some (kTg 1 []) from fun _ => rfl]
        refine ⟨kTg 1 [], ⟨fun p h => (by injection h with h; exact h.symm), ?_⟩⟩
        rw [kTg, tagC_mk]
        generalize ([] : List Tree) = L at *
        refine spec_of Tryz.func48 rfl rfl rfl (by kernel_rfl) rfl fun K => ?_
        (repeat' (first | with_reducible (first | refine zA fun Kn hK => ?_ | refine zB (by kernel_rfl) ?_ | refine Nx.go ?_ | go_step) | (refine ⟨_, hh, ?_⟩) | with_reducible (first | refine zI ?_ | refine zJ ?_ | refine zK ?_ ?_ | refine zL ?_ ?_ | refine zR (by kernel_rfl) ?_) | simp (maxSteps := 9999999) (disch := omega) only [wq] | (with_reducible refine zM (fun hb => ?_) (fun hb => ?_) <;> (try simp only [hb])) | (with_reducible refine And.intro (by first | omega | (simp; done) | (simp; omega)) ?_) | simp (maxSteps := 9999999) (implicitDefEqProofs := false) only [go_sem, n9, el, el2, er, d, bD, bytesD, Bd.none, Option.isSome_some] | fail))
        all_goals rfl
      | x :: l, hs, el, el2, er, hdM, hlM =>
        have hx : (x :: l)[0]? = some x := rfl
        have f0 := flat_at (f := treeC) treeC_len hx
        simp only [Nat.zero_mul, List.drop_zero] at f0
        have n0 : (((x :: l).length : Int) == 0) = false := by rw [beq_eq_false_iff_ne, List.length_cons]; omega
        have n1 : (0 : Int) < ((x :: l).length : Int) := by rw [List.length_cons]; omega
        have n1' : 0 < (x :: l).length := by rw [List.length_cons]; omega
        have n2 : 1 ≤ (x :: l).length := by rw [List.length_cons]; omega
        have dr := flat_drop (f := treeC) treeC_len (x :: l) 1
        have dl : (x :: l).length - 1 = l.length := by simp
        have dl2 : (((x :: l).length : Int) - 1) = (l.length : Int) := by rw [List.length_cons]; omega
        have hdr : (x :: l).drop 1 = l := rfl
        rw [hdr] at dr hs ⊢
        simp only [Nat.one_mul] at dr
        have his := fun w => isref_m (G := G) x rfl w
        have i1 := his wSet
        have i2 := his wPrefix
        have i3 := his wRange
        have hp : ∀ p, allSome (l.map (getT isV)) = some p → p = preS (l.map (getT isV)) := fun p h => preS_of h
        obtain ⟨ru, hru⟩ := rranged12_m (G := G) l (by rw [List.length_cons] at hlM; omega) (fun y hy => hdM y (by simp [hy]))
        have hrs := hru.spec
        have hst : ∀ sub, starT isV (x :: l) sub = if isB x wSet then sub.map (kTg 4) else if isB x wPrefix then prefT l else if isB x wRange then rangeT isV l else none := fun _ => rfl
        rw [hst]
        clear hst
        generalize preS (l.map (getT isV)) = P at *
        generalize allSome (l.map (getT isV)) = A at *
        cases q1 : isB x wSet with
        | true =>
          rw [q1] at i1
          unfold wSet at i1
          rw [if_pos rfl]
          clear hdr hx
          generalize x :: l = L at *
          refine ⟨kTg 4 P, ⟨fun p h => ?_, ?_⟩⟩
          · obtain ⟨q, hq, rfl⟩ := Option.map_eq_some_iff.1 h
            rw [hp q hq]
          · rw [kTg, tagC_mk]
            cases A
            all_goals
              refine spec_of Tryz.func48 rfl rfl rfl (by kernel_rfl) rfl fun K => ?_
              (repeat' (first | with_reducible (first | refine zA fun Kn hK => ?_ | refine zB (by kernel_rfl) ?_ | refine Nx.go ?_ | go_step) | (refine ⟨_, hh, ?_⟩) | (refine ⟨_, hs, ?_⟩) | (refine ⟨_, i1, ?_⟩) | with_reducible (first | refine zI ?_ | refine zJ ?_ | refine zK ?_ ?_ | refine zL ?_ ?_ | refine zR (by kernel_rfl) ?_) | simp (maxSteps := 9999999) (disch := omega) only [wq] | (with_reducible refine zM (fun hb => ?_) (fun hb => ?_) <;> (try simp only [hb])) | (with_reducible refine And.intro (by first | omega | (simp; done) | (simp; omega)) ?_) | simp (maxSteps := 9999999) (implicitDefEqProofs := false) only [go_sem, n9, el, el2, er, n0, n1, n1', n2, dr, dl, dl2, f0, bD, bytesD, Bd.none] | fail))
              all_goals rfl
        | false =>
          rw [q1] at i1
          unfold wSet at i1
          rw [if_neg (by simp)]
          cases q2 : isB x wPrefix with
          | true =>
            have q3 : isB x wRange = false := by
              unfold isB at q2 ⊢
              simp only [Bool.and_eq_true, beq_iff_eq] at q2
              rw [q2.2]
              simp [wPrefix, wRange]
            rw [q2] at i2
            rw [q3] at i3
            unfold wPrefix at i2
            unfold wRange at i3
            rw [if_pos rfl]
            match l, hs, hdr, hx, f0, n0, n1, n1', n2, dr, dl, dl2, el, el2, er, hdM, hlM with
            | [], hs, hdr, hx, f0, n0, n1, n1', n2, dr, dl, dl2, el, el2, er, hdM, hlM =>
              rw [show prefT [] = none from rfl]
              have d : ((([x] : List Tree).length : Int) == 2) = false := rfl
              refine ⟨zTg, ⟨fun p h => (by cases h), ?_⟩⟩
              rw [zTg, tagC_mk]
              clear hdr hx
              generalize [x] = L at *
              refine spec_of Tryz.func48 rfl rfl rfl (by kernel_rfl) rfl fun K => ?_
              (repeat' (first | with_reducible (first | refine zA fun Kn hK => ?_ | refine zB (by kernel_rfl) ?_ | refine Nx.go ?_ | go_step) | (refine ⟨_, hh, ?_⟩) | (refine ⟨_, i1, ?_⟩) | (refine ⟨_, i2, ?_⟩) | (refine ⟨_, i3, ?_⟩) | with_reducible (first | refine zI ?_ | refine zJ ?_ | refine zK ?_ ?_ | refine zL ?_ ?_ | refine zR (by kernel_rfl) ?_) | simp (maxSteps := 9999999) (disch := omega) only [wq] | (with_reducible refine zM (fun hb => ?_) (fun hb => ?_) <;> (try simp only [hb])) | (with_reducible refine And.intro (by first | omega | (simp; done) | (simp; omega)) ?_) | simp (maxSteps := 9999999) (implicitDefEqProofs := false) only [go_sem, n9, el, el2, er, n0, n1, n1', n2, d, f0, bD, bytesD, Bd.none, Option.isSome_none] | fail))
              all_goals rfl
            | [y], hs, hdr, hx, f0, n0, n1, n1', n2, dr, dl, dl2, el, el2, er, hdM, hlM =>
              have hy : [x, y][1]? = some y := rfl
              obtain ⟨a0, a1, a3, a4⟩ := tree_at hy
              simp only [Nat.reduceMul, Nat.reduceAdd, Nat.one_mul] at a0 a1 a3 a4
              have d : ((([x, y] : List Tree).length : Int) == 2) = true := rfl
              have m1 : (1 : Int) < (([x, y] : List Tree).length : Int) := by simp
              have m1' : 1 < ([x, y] : List Tree).length := by simp
              rw [show prefT [y] = if y.list || y.hinted then none else some (.mk 5 y.data [] 0 Bd.none Bd.none) from rfl]
              refine ⟨.mk 5 y.data [] 0 Bd.none Bd.none, ⟨fun p h => ?_, ?_⟩⟩
              · split at h
                · cases h
                · injection h with h
                  exact h.symm
              rw [tagC_mk]
              clear hdr hx hy
              generalize [x, y] = L at *
              generalize y.list = r1 at *
              generalize y.hinted = r2 at *
              cases r1 <;> cases r2
              all_goals
                refine spec_of Tryz.func48 rfl rfl rfl (by kernel_rfl) rfl fun K => ?_
                (repeat' (first | with_reducible (first | refine zA fun Kn hK => ?_ | refine zB (by kernel_rfl) ?_ | refine Nx.go ?_ | go_step) | (refine ⟨_, hh, ?_⟩) | (refine ⟨_, i1, ?_⟩) | (refine ⟨_, i2, ?_⟩) | (refine ⟨_, i3, ?_⟩) | with_reducible (first | refine zI ?_ | refine zJ ?_ | refine zK ?_ ?_ | refine zL ?_ ?_ | refine zR (by kernel_rfl) ?_) | simp (maxSteps := 9999999) (disch := omega) only [wq] | (with_reducible refine zM (fun hb => ?_) (fun hb => ?_) <;> (try simp only [hb])) | (with_reducible refine And.intro (by first | omega | (simp; done) | (simp; omega)) ?_) | simp (maxSteps := 9999999) (implicitDefEqProofs := false) only [go_sem, n9, el, el2, er, n0, n1, n1', n2, d, m1, m1', a0, a1, a3, f0, bD, bytesD, Bd.none, decide_true] | fail))
                all_goals rfl
            | y :: z :: l, hs, hdr, hx, f0, n0, n1, n1', n2, dr, dl, dl2, el, el2, er, hdM, hlM =>
              rw [show prefT (y :: z :: l) = none from rfl]
              have d : (((x :: y :: z :: l : List Tree).length : Int) == 2) = false := by rw [beq_eq_false_iff_ne, List.length_cons, List.length_cons, List.length_cons]; omega
              refine ⟨zTg, ⟨fun p h => (by cases h), ?_⟩⟩
              rw [zTg, tagC_mk]
              clear hdr hx
              generalize x :: y :: z :: l = L at *
              refine spec_of Tryz.func48 rfl rfl rfl (by kernel_rfl) rfl fun K => ?_
              (repeat' (first | with_reducible (first | refine zA fun Kn hK => ?_ | refine zB (by kernel_rfl) ?_ | refine Nx.go ?_ | go_step) | (refine ⟨_, hh, ?_⟩) | (refine ⟨_, i1, ?_⟩) | (refine ⟨_, i2, ?_⟩) | (refine ⟨_, i3, ?_⟩) | with_reducible (first | refine zI ?_ | refine zJ ?_ | refine zK ?_ ?_ | refine zL ?_ ?_ | refine zR (by kernel_rfl) ?_) | simp (maxSteps := 9999999) (disch := omega) only [wq] | (with_reducible refine zM (fun hb => ?_) (fun hb => ?_) <;> (try simp only [hb])) | (with_reducible refine And.intro (by first | omega | (simp; done) | (simp; omega)) ?_) | simp (maxSteps := 9999999) (implicitDefEqProofs := false) only [go_sem, n9, el, el2, er, n0, n1, n1', n2, d, f0, bD, bytesD, Bd.none, Option.isSome_none] | fail))
              all_goals rfl
          | false =>
            rw [q2] at i2
            unfold wPrefix at i2
            rw [if_neg (by simp)]
            clear hdr hx
            generalize x :: l = L at *
            cases q3 : isB x wRange with
            | true =>
              rw [q3] at i3
              unfold wRange at i3
              rw [if_pos rfl]
              refine ⟨ru, ⟨hru.is, ?_⟩⟩
              generalize rangeT isV l = R at *
              rw [tagC_eq] at hrs ⊢
              refine spec_of Tryz.func48 rfl rfl rfl (by kernel_rfl) rfl fun K => ?_
              (repeat' (first | with_reducible (first | refine zA fun Kn hK => ?_ | refine zB (by kernel_rfl) ?_ | refine Nx.go ?_ | go_step) | (refine ⟨_, hh, ?_⟩) | (refine ⟨_, i1, ?_⟩) | (refine ⟨_, i2, ?_⟩) | (refine ⟨_, i3, ?_⟩) | (refine ⟨_, hrs, ?_⟩) | with_reducible (first | refine zI ?_ | refine zJ ?_ | refine zK ?_ ?_ | refine zL ?_ ?_ | refine zR (by kernel_rfl) ?_) | simp (maxSteps := 9999999) (disch := omega) only [wq] | (with_reducible refine zM (fun hb => ?_) (fun hb => ?_) <;> (try simp only [hb])) | (with_reducible refine And.intro (by first | omega | (simp; done) | (simp; omega)) ?_) | simp (maxSteps := 9999999) (implicitDefEqProofs := false) only [go_sem, n9, el, el2, er, n0, n1, n1', n2, dr, dl, dl2, f0, bD, bytesD] | fail))
              all_goals rfl
            | false =>
              rw [q3] at i3
              unfold wRange at i3
              rw [if_neg (by simp)]
              refine ⟨zTg, ⟨fun p h => (by cases h), ?_⟩⟩
              rw [zTg, tagC_mk]
              refine spec_of Tryz.func48 rfl rfl rfl (by kernel_rfl) rfl fun K => ?_
              (repeat' (first | with_reducible (first | refine zA fun Kn hK => ?_ | refine zB (by kernel_rfl) ?_ | refine Nx.go ?_ | go_step) | (refine ⟨_, hh, ?_⟩) | (refine ⟨_, i1, ?_⟩) | (refine ⟨_, i2, ?_⟩) | (refine ⟨_, i3, ?_⟩) | (refine ⟨_, hrs, ?_⟩) | with_reducible (first | refine zI ?_ | refine zJ ?_ | refine zK ?_ ?_ | refine zL ?_ ?_ | refine zR (by kernel_rfl) ?_) | simp (maxSteps := 9999999) (disch := omega) only [wq] | (with_reducible refine zM (fun hb => ?_) (fun hb => ?_) <;> (try simp only [hb])) | (with_reducible refine And.intro (by first | omega | (simp; done) | (simp; omega)) ?_) | simp (maxSteps := 9999999) (implicitDefEqProofs := false) only [go_sem, n9, el, el2, er, n0, n1, n1', n2, dr, dl, dl2, f0, bD, bytesD, Bd.none, Option.isSome_none] | fail))
              all_goals rfl
theorem rGet12_m (v : Tree) {cs : List D} (hcs : treeC v = cs) (hw : v.wt ≤ 10000000) : Spec Tryz.prog G 22 [.g cs] (match (if v.may then getT isV v else none) with
    | some t => .many [.g (tagC t), .c (.v (.bool true))]
    | none => .many [.g (tagC zTg), .c (.v (.bool false))]) := by
  subst hcs
  have h1 := may_m (G := G) v rfl hw
  obtain ⟨u, hu⟩ := rget12_m (G := G) v _ rfl hw
  have h2 := hu.spec
  have h3 := hu.is
  clear hu
  rw [treeC_eq] at h1 h2 ⊢
  cases hm : v.may with
  | false =>
    rw [hm] at h1
    rw [if_neg (by simp)]
    dsimp only
    rw [zTg, tagC_mk]
    refine spec_of Tryz.func22 rfl rfl rfl (by kernel_rfl) rfl fun K => ?_
    (repeat' (first | with_reducible (first | refine zA fun Kn hK => ?_ | refine zB (by kernel_rfl) ?_ | refine Nx.go ?_ | go_step) | (refine ⟨_, h1, ?_⟩) | with_reducible (first | refine zI ?_ | refine zJ ?_ | refine zK ?_ ?_ | refine zL ?_ ?_ | refine zR (by kernel_rfl) ?_) | simp (maxSteps := 9999999) (disch := omega) only [wq] | (with_reducible refine zM (fun hb => ?_) (fun hb => ?_) <;> (try simp only [hb])) | (with_reducible refine And.intro (by first | omega | (simp; done) | (simp; omega)) ?_) | simp (maxSteps := 9999999) (implicitDefEqProofs := false) only [go_sem, bD, bytesD, Bd.none] | fail))
    all_goals rfl
  | true =>
    rw [hm] at h1
    rw [if_pos rfl]
    generalize getT isV v = o at *
    cases o with
    | none =>
      dsimp only
      rw [tagC_eq u] at h2
      rw [zTg, tagC_mk]
      refine spec_of Tryz.func22 rfl rfl rfl (by kernel_rfl) rfl fun K => ?_
      (repeat' (first | with_reducible (first | refine zA fun Kn hK => ?_ | refine zB (by kernel_rfl) ?_ | refine Nx.go ?_ | go_step) | (refine ⟨_, h1, ?_⟩) | (refine ⟨_, h2, ?_⟩) | with_reducible (first | refine zI ?_ | refine zJ ?_ | refine zK ?_ ?_ | refine zL ?_ ?_ | refine zR (by kernel_rfl) ?_) | simp (maxSteps := 9999999) (disch := omega) only [wq] | (with_reducible refine zM (fun hb => ?_) (fun hb => ?_) <;> (try simp only [hb])) | (with_reducible refine And.intro (by first | omega | (simp; done) | (simp; omega)) ?_) | simp (maxSteps := 9999999) (implicitDefEqProofs := false) only [go_sem, bD, bytesD, Bd.none, Option.isSome_none] | fail))
      all_goals rfl
    | some t =>
      obtain rfl := h3 t rfl
      dsimp only
      rw [tagC_eq] at h2 ⊢
      refine spec_of Tryz.func22 rfl rfl rfl (by kernel_rfl) rfl fun K => ?_
      (repeat' (first | with_reducible (first | refine zA fun Kn hK => ?_ | refine zB (by kernel_rfl) ?_ | refine Nx.go ?_ | go_step) | (refine ⟨_, h1, ?_⟩) | (refine ⟨_, h2, ?_⟩) | with_reducible (first | refine zI ?_ | refine zJ ?_ | refine zK ?_ ?_ | refine zL ?_ ?_ | refine zR (by kernel_rfl) ?_) | simp (maxSteps := 9999999) (disch := omega) only [wq] | (with_reducible refine zM (fun hb => ?_) (fun hb => ?_) <;> (try simp only [hb])) | (with_reducible refine And.intro (by first | omega | (simp; done) | (simp; omega)) ?_) | simp (maxSteps := 9999999) (implicitDefEqProofs := false) only [go_sem, bD, bytesD, Option.isSome_some] | fail))
      all_goals rfl
end
end Go.Proofs.YtbeghpkkpnbkgaaGreatDoor
/- A value that may be: its parts may be; lists and atoms that may be. -/
namespace Go.Proofs.YtbeghpkkpnbkgaaGreatDoor
end Go.Proofs.YtbeghpkkpnbkgaaGreatDoor
