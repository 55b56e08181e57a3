/- S-expressions as trees, and how they lie in memory. -/
import Derived.Test.YtdakeodebgggfaaDoorV
namespace Go.Proofs.YtdakeodebgggfaaDoor
open Go.RowKit
set_option linter.unusedVariables false

/-- A value: a list of others, or bytes, perhaps with a hint. -/
inductive Tree where
  | mk (list hinted : Bool) (hint data : List UInt8) (kids : List Tree)
def Tree.list : Tree → Bool | .mk l _ _ _ _ => l
def Tree.hinted : Tree → Bool | .mk _ h _ _ _ => h
def Tree.hint : Tree → List UInt8 | .mk _ _ x _ _ => x
def Tree.data : Tree → List UInt8 | .mk _ _ _ d _ => d
def Tree.kids : Tree → List Tree | .mk _ _ _ _ k => k
theorem Tree.eta (t : Tree) : t = .mk t.list t.hinted t.hint t.data t.kids := by cases t; rfl
theorem Tree.kid_lt {t x : Tree} (h : x ∈ t.kids) : SizeOf.sizeOf x < SizeOf.sizeOf t := by
  cases t
  have := List.sizeOf_lt_of_mem h
  simp only [Tree.kids] at this
  simp only [Tree.mk.sizeOf_spec]
  omega
theorem Tree.ind {P : Tree → Prop} (h : ∀ t, (∀ x ∈ t.kids, P x) → P t) (t : Tree) : P t :=
  h t fun x hx => Tree.ind h x
termination_by SizeOf.sizeOf t
decreasing_by exact Tree.kid_lt hx

/-- How a value lies in memory: five cells, and what they lead to. -/
def Tree.rd (w : World) (S : Nat → Prop) (cs : List Value) (t : Tree) : Prop :=
  ∃ A1 n1 c1 A2 n2 c2 A3 n3 c3, cs = [.bool t.list, .bool t.hinted, .slice A1 n1 c1, .slice A2 n2 c2, .slice A3 n3 c3] ∧ Rep.u8.sl w S A1 n1 c1 t.hint ∧ Rep.u8.sl w S A2 n2 c2 t.data ∧
    t.kids.length = n3 ∧ n3 ≤ c3 ∧ c3 ≤ 9223372036854775807 ∧ (0 < n3 → ∃ b o, A3 = some ⟨b, o, none⟩ ∧ S b ∧
      ∀ i x, (hx : t.kids[i]? = some x) → ∃ es, Tree.rd w S es x ∧ ∀ j u, es[j]? = some u → w.cell? ⟨b, o + i * 5 + j, none⟩ = some u)
termination_by SizeOf.sizeOf t
decreasing_by exact Tree.kid_lt (List.mem_of_getElem? hx)

theorem Tree.rd_len {w : World} {S : Nat → Prop} {cs : List Value} {t : Tree} (h : Tree.rd w S cs t) : cs.length = 5 := by
  rw [Tree.rd] at h
  obtain ⟨_, _, _, _, _, _, _, _, _, rfl, _⟩ := h
  rfl
theorem Tree.rd_keep {w w' : World} {S : Nat → Prop} (hk : ∀ p : Addr, S p.block → w'.cell? p = w.cell? p) : ∀ (t : Tree) {cs : List Value}, Tree.rd w S cs t → Tree.rd w' S cs t := by
  refine Tree.ind fun t ih cs h => ?_
  rw [Tree.rd] at h ⊢
  obtain ⟨A1, n1, c1, A2, n2, c2, A3, n3, c3, rfl, h1, h2, h3, h4, h5, h6⟩ := h
  refine ⟨A1, n1, c1, A2, n2, c2, A3, n3, c3, rfl, Rep.sl_keep h1 hk, Rep.sl_keep h2 hk, h3, h4, h5, fun hn => ?_⟩
  obtain ⟨b, o, rfl, hb, hr⟩ := h6 hn
  refine ⟨b, o, rfl, hb, fun i x hx => ?_⟩
  obtain ⟨es, he, hc⟩ := hr i x hx
  exact ⟨es, ih x (List.mem_of_getElem? hx) he, fun j u hu => by rw [hk _ hb]; exact hc j u hu⟩
theorem Tree.rd_more {w : World} {S S' : Nat → Prop} (hS : ∀ b, S b → S' b) : ∀ (t : Tree) {cs : List Value}, Tree.rd w S cs t → Tree.rd w S' cs t := by
  refine Tree.ind fun t ih cs h => ?_
  rw [Tree.rd] at h ⊢
  obtain ⟨A1, n1, c1, A2, n2, c2, A3, n3, c3, rfl, h1, h2, h3, h4, h5, h6⟩ := h
  refine ⟨A1, n1, c1, A2, n2, c2, A3, n3, c3, rfl, Rep.sl_more h1 hS, Rep.sl_more h2 hS, h3, h4, h5, fun hn => ?_⟩
  obtain ⟨b, o, rfl, hb, hr⟩ := h6 hn
  refine ⟨b, o, rfl, hS _ hb, fun i x hx => ?_⟩
  obtain ⟨es, he, hc⟩ := hr i x hx
  exact ⟨es, ih x (List.mem_of_getElem? hx) he, hc⟩

def Rep.tree : Rep Tree where
  size := 5
  pos := by omega
  rd := Tree.rd
  len := Tree.rd_len
  keep := fun h hk => Tree.rd_keep hk _ h
  more := fun h hS => Tree.rd_more hS _ h
  one := fun h u hu => by
    rw [Tree.rd] at h
    obtain ⟨_, _, _, _, _, _, _, _, _, rfl, _⟩ := h
    simp only [List.mem_cons, List.not_mem_nil, or_false] at hu
    rcases hu with rfl | rfl | rfl | rfl | rfl <;> rfl

/-- A value's five cells. -/
def Parts (w : World) (S : Nat → Prop) (t : Tree) (A1 : Option Addr) (n1 c1 : Nat) (A2 : Option Addr) (n2 c2 : Nat) (A3 : Option Addr) (n3 c3 : Nat) : Prop :=
  Rep.u8.sl w S A1 n1 c1 t.hint ∧ Rep.u8.sl w S A2 n2 c2 t.data ∧ Rep.tree.sl w S A3 n3 c3 t.kids
theorem Rep.tree_open {w : World} {S : Nat → Prop} {cs : List Value} {t : Tree} (h : Rep.tree.rd w S cs t) :
    ∃ A1 n1 c1 A2 n2 c2 A3 n3 c3, cs = [.bool t.list, .bool t.hinted, .slice A1 n1 c1, .slice A2 n2 c2, .slice A3 n3 c3] ∧ Parts w S t A1 n1 c1 A2 n2 c2 A3 n3 c3 := by
  have h' : Tree.rd w S cs t := h
  rw [Tree.rd] at h'
  obtain ⟨A1, n1, c1, A2, n2, c2, A3, n3, c3, rfl, h1, h2, h3, h4, h5, h6⟩ := h'
  exact ⟨A1, n1, c1, A2, n2, c2, A3, n3, c3, rfl, h1, h2, h3, h4, h5, h6⟩
theorem Rep.tree_mk {w : World} {S : Nat → Prop} {t : Tree} {A1 A2 A3 : Option Addr} {n1 c1 n2 c2 n3 c3 : Nat} (h : Parts w S t A1 n1 c1 A2 n2 c2 A3 n3 c3) :
    Rep.tree.rd w S [.bool t.list, .bool t.hinted, .slice A1 n1 c1, .slice A2 n2 c2, .slice A3 n3 c3] t := by
  show Tree.rd w S _ t
  rw [Tree.rd]
  exact ⟨A1, n1, c1, A2, n2, c2, A3, n3, c3, rfl, h.1, h.2.1, h.2.2.1, h.2.2.2.1, h.2.2.2.2.1, h.2.2.2.2.2⟩

/-- How much a value holds. -/
def Tree.wt (t : Tree) : Nat := 1 + t.hint.length + t.data.length + (t.kids.attach.map fun x => Tree.wt x.1).sum
termination_by SizeOf.sizeOf t
decreasing_by exact Tree.kid_lt x.2
theorem Tree.wt_eq (t : Tree) : t.wt = 1 + t.hint.length + t.data.length + (t.kids.map Tree.wt).sum := by
  rw [Tree.wt]
  congr 2
  simp
theorem sum_mem {l : List Tree} {x : Tree} (f : Tree → Nat) (h : x ∈ l) : f x ≤ (l.map f).sum := by
  induction l with
  | nil => cases h
  | cons y l ih =>
    simp only [List.map_cons, List.sum_cons]
    rcases List.mem_cons.1 h with rfl | h
    · omega
    · have := ih h; omega
theorem Tree.wt_kid {t x : Tree} (h : x ∈ t.kids) : x.wt < t.wt := by
  rw [Tree.wt_eq t]
  have := sum_mem Tree.wt h
  omega
theorem Tree.wt_kids (t : Tree) : t.kids.length ≤ t.wt := by
  rw [Tree.wt_eq t]
  have : ∀ l : List Tree, l.length ≤ (l.map Tree.wt).sum := by
    intro l
    induction l with
    | nil => simp
    | cons y l ih =>
      have : 1 ≤ y.wt := by rw [Tree.wt_eq]; omega
      simp only [List.map_cons, List.sum_cons, List.length_cons]
      omega
  have := this t.kids
  omega
theorem Tree.wt_hint (t : Tree) : t.hint.length ≤ t.wt := by rw [Tree.wt_eq]; omega
theorem Tree.wt_data (t : Tree) : t.data.length ≤ t.wt := by rw [Tree.wt_eq]; omega
end Go.Proofs.YtdakeodebgggfaaDoor
