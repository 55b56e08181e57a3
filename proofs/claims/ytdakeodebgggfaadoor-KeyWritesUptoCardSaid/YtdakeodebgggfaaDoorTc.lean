/- What is told of a tree: its parts, its depth, its form. -/
import Derived.Test.YtdakeodebgggfaaDoorTa
namespace Go.Proofs.YtdakeodebgggfaaDoor
set_option linter.unusedVariables false

def Tree.nodes (t : Tree) : Nat := 1 + (t.kids.attach.map fun x => Tree.nodes x.1).sum
termination_by SizeOf.sizeOf t
decreasing_by exact Tree.kid_lt x.2
theorem Tree.nodes_eq (t : Tree) : t.nodes = 1 + (t.kids.map Tree.nodes).sum := by
  rw [Tree.nodes]
  congr 2
  simp
theorem Tree.nodes_wt : ∀ t : Tree, t.nodes ≤ t.wt := Tree.ind fun t ih => by
  rw [Tree.nodes_eq, Tree.wt_eq]
  have : ∀ l : List Tree, (∀ x ∈ l, x.nodes ≤ x.wt) → (l.map Tree.nodes).sum ≤ (l.map Tree.wt).sum := by
    intro l
    induction l with
    | nil => simp
    | cons x l ih =>
      intro h
      have h0 := h x (by simp)
      have := ih fun y hy => h y (by simp [hy])
      simp only [List.map_cons, List.sum_cons]
      omega
  have := this t.kids ih
  omega

/-- Are fields empty that must be? -/
def Tree.fair (t : Tree) : Bool := if t.list then !t.hinted && t.hint.length == 0 && t.data.length == 0 else t.kids.length == 0 && (t.hinted || t.hint.length == 0)
def Tree.clean (t : Tree) : Bool := t.fair && t.kids.attach.all fun x => Tree.clean x.1
termination_by SizeOf.sizeOf t
decreasing_by exact Tree.kid_lt x.2
theorem Tree.clean_eq (t : Tree) : t.clean = (t.fair && t.kids.all Tree.clean) := by
  rw [Tree.clean]
  congr 1
  simp

def most (l : List Nat) : Nat := l.foldl max 0
def Tree.deep (t : Tree) : Nat := if t.list then most (t.kids.attach.map fun x => Tree.deep x.1) + 1 else 0
termination_by SizeOf.sizeOf t
decreasing_by exact Tree.kid_lt x.2
theorem Tree.deep_eq (t : Tree) : t.deep = if t.list then most (t.kids.map Tree.deep) + 1 else 0 := by
  rw [Tree.deep]
  congr 2
  simp
theorem most_snoc (l : List Nat) (k : Nat) : most (l ++ [k]) = max (most l) k := by simp [most]
theorem most_le {l : List Nat} {n : Nat} : most l ≤ n ↔ ∀ k ∈ l, k ≤ n := by
  have : ∀ (l : List Nat) (a : Nat), l.foldl max a ≤ n ↔ a ≤ n ∧ ∀ k ∈ l, k ≤ n := by
    intro l
    induction l with
    | nil => simp
    | cons x l ih =>
      intro a
      rw [List.foldl_cons, ih]
      simp only [List.mem_cons, forall_eq_or_imp, Nat.max_le, and_assoc]
  have := this l 0
  simpa [most] using this
theorem Tree.deep_wt : ∀ t : Tree, t.deep ≤ t.wt := Tree.ind fun t ih => by
  rw [Tree.deep_eq]
  split
  · have : most (t.kids.map Tree.deep) ≤ t.wt - 1 := most_le.2 fun k hk => by
      obtain ⟨x, hx, rfl⟩ := List.mem_map.1 hk
      have h1 := ih x hx
      have h2 := Tree.wt_kid hx
      omega
    have : 1 ≤ t.wt := by rw [Tree.wt_eq]; omega
    omega
  · omega

/-- A number's digits. -/
def dec (n : Nat) : List UInt8 := if n < 10 then [UInt8.ofNat (48 + n)] else dec (n / 10) ++ [UInt8.ofNat (48 + n % 10)]
theorem dec_len {n : Nat} : ∀ k, n < 10 ^ (k + 1) → (dec n).length ≤ k + 1 := by
  intro k
  induction k generalizing n with
  | zero =>
    intro h
    rw [dec, if_pos (by simpa using h)]
    simp
  | succ k ih =>
    intro h
    rw [dec]
    split
    · simp
    · rw [List.length_append, List.length_singleton]
      have := ih (n := n / 10) (by rw [Nat.div_lt_iff_lt_mul (by omega)]; rw [Nat.pow_succ] at h; omega)
      omega
theorem dec_pos (n : Nat) : 1 ≤ (dec n).length := by
  rw [dec]
  split <;> simp
def textB (b : List UInt8) : List UInt8 := dec b.length ++ [58] ++ b
theorem textB_len {b : List UInt8} {n : Nat} (h : b.length ≤ n) (hn : n < 100000000) : (textB b).length ≤ n + 9 := by
  have := dec_len (n := b.length) 7 (by simp only [Nat.reduceAdd, Nat.reducePow]; omega)
  simp only [textB, List.length_append, List.length_singleton]
  omega
def Tree.atomF (t : Tree) : List UInt8 := (if t.hinted then [91] ++ textB t.hint ++ [93] else []) ++ textB t.data
def Tree.form (t : Tree) : List UInt8 := if t.list then [40] ++ (t.kids.attach.map fun x => Tree.form x.1).flatten ++ [41] else t.atomF
termination_by SizeOf.sizeOf t
decreasing_by exact Tree.kid_lt x.2
theorem Tree.form_eq (t : Tree) : t.form = if t.list then [40] ++ (t.kids.map Tree.form).flatten ++ [41] else t.atomF := by
  rw [Tree.form]
  congr 3
  simp
theorem Tree.form_wt : ∀ t : Tree, t.wt ≤ 10000000 → t.form.length ≤ 21 * t.wt := Tree.ind fun t ih => by
  intro hw
  rw [Tree.form_eq]
  split
  · have : ∀ l : List Tree, (∀ x ∈ l, x.form.length ≤ 21 * x.wt) → (l.map Tree.form).flatten.length ≤ 21 * (l.map Tree.wt).sum := by
      intro l
      induction l with
      | nil => simp
      | cons x l ih =>
        intro h
        have h0 := h x (by simp)
        have := ih fun y hy => h y (by simp [hy])
        simp only [List.map_cons, List.sum_cons, List.flatten_cons, List.length_append]
        omega
    have := this t.kids fun x hx => ih x hx (by have := Tree.wt_kid hx; omega)
    rw [Tree.wt_eq]
    simp only [List.length_append, List.length_singleton]
    omega
  · have h1 := textB_len (b := t.hint) (Nat.le_refl _) (by have := t.wt_hint; omega)
    have h2 := textB_len (b := t.data) (Nat.le_refl _) (by have := t.wt_data; omega)
    rw [Tree.wt_eq]
    unfold Tree.atomF
    split <;> simp only [List.length_append, List.length_singleton, List.length_nil] <;> omega

/-- May a value be? -/
def Tree.may (t : Tree) : Bool := t.clean && decide (t.nodes ≤ 512) && decide (t.deep ≤ 16) && decide (t.form.length ≤ 4096)

noncomputable def Tree.same (t u : Tree) : Bool := @decide (t = u) (Classical.propDecidable _)
theorem Tree.same_true {t u : Tree} : t.same u = true ↔ t = u := by
  unfold Tree.same
  exact @decide_eq_true_iff _ (Classical.propDecidable _)
theorem Tree.same_refl (t : Tree) : t.same t = true := Tree.same_true.2 rfl
theorem Tree.same_false {t u : Tree} (h : t ≠ u) : t.same u = false := by
  cases hq : t.same u
  · rfl
  · exact absurd (Tree.same_true.1 hq) h
theorem Tree.ext_iff {t u : Tree} : t = u ↔ t.list = u.list ∧ t.hinted = u.hinted ∧ t.hint = u.hint ∧ t.data = u.data ∧ t.kids = u.kids := by
  cases t
  cases u
  simp [Tree.list, Tree.hinted, Tree.hint, Tree.data, Tree.kids]
end Go.Proofs.YtdakeodebgggfaaDoor
