/- From the form's reading of a value to a tree, with what it holds. -/
import Derived.Test.YtdakeodebgggfaaDoorTa
import Derived.Test.YtdakeodebgggfaaDoorO
import Derived.Test.YtdakeodebgggfaaDoorRows
namespace Go.Proofs.YtdakeodebgggfaaDoor
open Go.RowKit Go.ChangeShapes Go.WideShapes Go.Deep
set_option linter.unusedVariables false

/-- Whatever of type t is read as data, with so much fuel, is read by r, and holds no more. -/
def OpensN {α : Type} (P : Program) (fuel : Nat) (t : TypeId) (r : Rep α) (wt : α → Nat) : Prop :=
  ∀ (H : Type) (enc : TypeId × Value → H) (w : World) (sp : Nat → Bool) (held : Bool) (cs : List Value) (x : DataW H × List MemPlace), DataW.trod enc P w 0 sp held fuel t cs = some x →
    ∃ y, r.rd w (fun b => b < w.heap.size) cs y ∧ wt y ≤ Rows.uptoBulk x.1

theorem pick_list {α : Type} (Q : Nat → α → Prop) : ∀ n, (∀ i, i < n → ∃ y, Q i y) → ∃ xs : List α, xs.length = n ∧ ∀ i x, xs[i]? = some x → Q i x
  | 0, _ => ⟨[], rfl, fun i x h => by simp at h⟩
  | n + 1, h => by
    obtain ⟨xs, h1, h2⟩ := pick_list Q n fun i hi => h i (by omega)
    obtain ⟨y, hy⟩ := h n (by omega)
    refine ⟨xs ++ [y], by simp [h1], fun i x hx => ?_⟩
    rw [List.getElem?_append] at hx
    split at hx
    · exact h2 i x hx
    · rename_i hi
      have : i - xs.length = 0 := by
        cases hk : i - xs.length with
        | zero => rfl
        | succ k => rw [hk] at hx; simp at hx
      rw [this] at hx
      simp at hx
      subst hx
      obtain rfl : i = n := by omega
      exact hy
theorem sum_bulk {H α : Type} (wt : α → Nat) : ∀ (xs : List α) (ds : List (DataW H)), xs.length = ds.length → (∀ (i : Nat) (x : α) (d : DataW H), xs[i]? = some x → ds[i]? = some d → wt x ≤ Rows.uptoBulk d) → (xs.map wt).sum ≤ Rows.uptoBulkAll ds
  | [], _, _, _ => by simp
  | x :: xs, [], h, _ => by simp at h
  | x :: xs, d :: ds, h, hw => by
    have h0 := hw 0 x d rfl rfl
    have := sum_bulk wt xs ds (by simpa using h) fun i y e hy he => hw (i + 1) y e (by simpa using hy) (by simpa using he)
    simp only [List.map_cons, List.sum_cons, Rows.uptoBulkAll]
    omega

section
variable {α : Type} {P : Program} {t e : TypeId}
theorem opensN_u8 (fuel : Nat) (ht : P.underlying t = some (.int .u8)) (hc : P.cellsOf t = 1) : OpensN P fuel t Rep.u8 (fun _ => 1) := fun H enc w sp held cs x h => by
  obtain ⟨y, hy⟩ := (opens_u8 ht hc).2 H enc w sp held fuel cs x h
  refine ⟨y, hy, ?_⟩
  obtain ⟨n, rfl, rfl, hw⟩ := DataW.trod_int ht h
  simp [Rows.uptoBulk]
theorem opensN_slice {r : Rep α} {wt : α → Nat} (fuel : Nat) (ht : P.underlying t = some (.slice e)) (hce : P.cellsOf e = r.size) (he : ∀ n, n < fuel → OpensN P n e r wt) : OpensN P fuel t r.slice (fun xs => (xs.map wt).sum + 1) := fun H enc w sp held cs x h => by
  rcases DataW.trod_slice ht h with ⟨rfl, rfl⟩ | ⟨a, len, cap, elems, rest, n, rfl, rfl, rfl, _, hl, hm, hlen, hi, _⟩
  · exact ⟨[], ⟨none, 0, 0, rfl, Rep.sl_nil⟩, by simp [Rows.uptoBulk]⟩
  · have hel : ∀ i, i < len → ∃ y, (∃ es : List Value, r.rd w (fun b => b < w.heap.size) es y ∧ ∀ j u, es[j]? = some u → w.cell? (a.add (i * r.size + j)) = some u) ∧ ∀ d, elems[i]? = some d → wt y ≤ Rows.uptoBulk d.1 := by
      intro i hil
      have hh := hi i hil
      have hin : i < elems.length := by omega
      rw [List.getElem?_eq_getElem hin] at hh ⊢
      obtain ⟨cs', h1, h2⟩ := Option.bind_eq_some_iff.1 hh
      obtain ⟨y, hy, hwt⟩ := he n (by omega) H enc w sp held cs' _ h2
      refine ⟨y, ⟨cs', hy, fun j u hu => ?_⟩, fun d hd => ?_⟩
      · obtain ⟨_, hcl, hat⟩ := World.cells?_some h1
        have hj : j < P.cellsOf e := by
          have := (List.getElem?_eq_some_iff.1 hu).1
          omega
        have := hat j hj
        rw [hce] at this
        rw [← Go.Deep.add_add, this, hu]
      · injection hd with hd
        subst hd
        exact hwt
    obtain ⟨xs, hx1, hx2⟩ := pick_list _ len hel
    refine ⟨xs, ⟨some a, len, cap, rfl, hx1, hl, by simpa [maxLen] using hm, fun hn => ?_⟩, ?_⟩
    · obtain ⟨y0, ⟨es0, hr0, hc0⟩, _⟩ := hel 0 hn
      have hne : 0 < es0.length := by rw [r.len hr0]; exact r.pos
      have hcell := hc0 0 es0[0] (List.getElem?_eq_getElem hne)
      simp only [Nat.zero_mul, Nat.add_zero] at hcell
      obtain ⟨b, off, spot⟩ := a
      have hspot : spot = none := by simpa [Addr.add] using World.cell?_spot hcell
      subst hspot
      have hlt : b < w.heap.size := by simpa [Addr.add] using World.block_lt_of_cell? w _ hcell
      refine ⟨b, off, rfl, hlt, fun i x hx => ?_⟩
      obtain ⟨⟨es, h1, h2⟩, _⟩ := hx2 i x hx
      refine ⟨es, h1, fun j u hu => ?_⟩
      have := h2 j u hu
      rw [Addr.add_lit] at this
      rw [← this, Nat.add_assoc]
    · have := sum_bulk (H := H) wt xs (elems.map (·.1)) (by rw [hx1, List.length_map, hlen]) fun i x d hx hd => by
        rw [List.getElem?_map, Option.map_eq_some_iff] at hd
        obtain ⟨d', hd', rfl⟩ := hd
        exact (hx2 i x hx).2 d' hd'
      simp only [Rows.uptoBulk]
      omega
theorem sum_ones {β : Type} (xs : List β) : (xs.map fun _ => 1).sum = xs.length := by
  induction xs with
  | nil => rfl
  | cons x xs ih => simp only [List.map_cons, List.sum_cons, ih, List.length_cons]; omega

/-- A value of type Sexp is a tree. -/
theorem opensN_tree {tb tB tl ty : TypeId} {fs : Array Field} (ht : P.underlying t = some (.struct fs)) (hf : fs.toList.map (fun f => (f.type, f.offset)) = [(tb, 0), (tb, 1), (tB, 2), (tB, 3), (tl, 4)]) (hc : P.cellsOf t = 5)
    (hb : P.underlying tb = some .bool) (hB : P.underlying tB = some (.slice ty)) (hy : P.underlying ty = some (.int .u8)) (hl : P.underlying tl = some (.slice t))
    (cb : P.cellsOf tb = 1) (cB : P.cellsOf tB = 1) (cy : P.cellsOf ty = 1) (cl : P.cellsOf tl = 1) : ∀ fuel, OpensN P fuel t Rep.tree Tree.wt := by
  intro fuel
  induction fuel using Nat.strongRecOn with
  | _ fuel ih =>
  intro H enc w sp held cs x h
  obtain ⟨xs, n, rfl, rfl, hcl, hlx, hg⟩ := DataW.trod_struct ht h
  have hfl : fs.size = 5 := by
    have := congrArg List.length hf
    simpa using this
  have hfi : ∀ (i : Nat) (p : Nat × Nat), [(tb, 0), (tb, 1), (tB, 2), (tB, 3), (tl, 4)][i]? = some p → ∃ f : Field, fs[i]? = some f ∧ f.type = p.1 ∧ f.offset = p.2 := by
    intro i p hp
    rw [← hf, List.getElem?_map, Option.map_eq_some_iff] at hp
    obtain ⟨f, h1, rfl⟩ := hp
    exact ⟨f, by simpa using h1, rfl, rfl⟩
  have hx5 : xs.length = 5 := by omega
  have hc5 : cs.length = 5 := by omega
  match xs, hx5, cs, hc5 with
  | [x0, x1, x2, x3, x4], _, [c0, c1, c2, c3, c4], _ =>
    obtain ⟨f0, g0, t0, o0⟩ := hfi 0 _ rfl
    obtain ⟨f1, g1, t1, o1⟩ := hfi 1 _ rfl
    obtain ⟨f2, g2, t2, o2⟩ := hfi 2 _ rfl
    obtain ⟨f3, g3, t3, o3⟩ := hfi 3 _ rfl
    obtain ⟨f4, g4, t4, o4⟩ := hfi 4 _ rfl
    have e0 := hg 0 f0 g0
    have e1 := hg 1 f1 g1
    have e2 := hg 2 f2 g2
    have e3 := hg 3 f3 g3
    have e4 := hg 4 f4 g4
    rw [t0, o0, cb] at e0
    rw [t1, o1, cb] at e1
    rw [t2, o2, cB] at e2
    rw [t3, o3, cB] at e3
    rw [t4, o4, cl] at e4
    obtain ⟨b0, q0, r0⟩ := DataW.trod_bool hb e0
    obtain ⟨b1, q1, r1⟩ := DataW.trod_bool hb e1
    have oB : ∀ n, OpensN P n tB Rep.u8.slice (fun xs => (xs.map fun _ => 1).sum + 1) := fun n => opensN_slice n hB cy fun m _ => opensN_u8 m hy cy
    obtain ⟨y2, ⟨A2, n2, k2, q2, s2⟩, w2⟩ := oB _ _ _ _ _ _ _ _ e2
    obtain ⟨y3, ⟨A3, n3, k3, q3, s3⟩, w3⟩ := oB _ _ _ _ _ _ _ _ e3
    obtain ⟨y4, ⟨A4, n4, k4, q4, s4⟩, w4⟩ := opensN_slice (r := Rep.tree) (wt := Tree.wt) n hl hc (fun m hm => ih m (by omega)) _ _ _ _ _ _ _ e4
    simp only [List.drop_zero, List.drop_succ_cons, List.take_succ_cons, List.take_zero, List.cons.injEq, and_true] at q0 q1 q2 q3 q4
    subst q0 q1 q2 q3 q4
    refine ⟨.mk b0 b1 y2 y3 y4, Rep.tree_mk (t := .mk b0 b1 y2 y3 y4) ⟨s2, s3, s4⟩, ?_⟩
    rw [Tree.wt_eq]
    simp only [sum_ones] at w2 w3
    have w4' : (y4.map Tree.wt).sum + 1 ≤ Rows.uptoBulk x4.1 := w4
    simp only [Rows.uptoBulk, Rows.uptoBulkAll, List.map_cons, List.map_nil, Tree.hint, Tree.data, Tree.kids]
    omega
end
end Go.Proofs.YtdakeodebgggfaaDoor
