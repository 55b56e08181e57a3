/- A region that draws its order, some of whose operations ('late' ones) wait for certain loads: what those read need stand only till the first late one. -/
import Derived.OrdersHeld
import Derived.Deep.DrawnRows
import Derived.Deep.RegionHeld
namespace Go.Proofs.YtdakeodebgggfaaDoor
open Go

section
variable {P : Program} {ops : Array Oper} {Q : Exit → Act → World → Prop} {md : Region.Mode} {S : World → Prop} {L : List Nat}

/-- No late operation has come up yet. -/
def noLate (L : List Nat) (listed : Array Bool) : Bool := L.all fun k => !listed.getD k true
theorem noLate_set {i : Nat} {listed : Array Bool} (h : noLate L listed = true) (hi : L.contains i = false) : noLate L (listed.setIfInBounds i true) = true := by
  simp only [noLate, List.all_eq_true] at h ⊢
  intro k hk
  have h1 := h k hk
  by_cases e : i = k
  · subst e
    rw [List.contains_iff_mem.2 hk] at hi
    cases hi
  · rw [getD_set_ne true e]
    exact h1
theorem noLate_mono {i : Nat} {listed : Array Bool} (h : noLate L listed = false) : noLate L (listed.setIfInBounds i true) = false := by
  cases hq : noLate L (listed.setIfInBounds i true) with
  | false => rfl
  | true =>
    rw [← h]
    symm
    simp only [noLate, List.all_eq_true] at hq ⊢
    intro k hk
    have h1 := hq k hk
    by_cases e : i = k
    · subst e
      rcases Nat.lt_or_ge i listed.size with h' | h'
      · simp [h'] at h1
      · rw [Array.setIfInBounds_eq_of_size_le h'] at h1
        exact h1
    · rw [getD_set_ne true e] at h1
      exact h1
/-- Whatever order is picked from here on; as long as no late one has come up, the world is as S says. -/
def wpAnyD (P : Program) (md : Region.Mode) (ops : Array Oper) (Q : Exit → Act → World → Prop) (S : World → Prop) (L : List Nat) : Nat → Array Bool → Act → World → Prop
  | 0, listed, a, w => Region.ready md ops listed = [] ∧ Q .normal a w
  | fuel + 1, listed, a, w => (Region.ready md ops listed = [] → Q .normal a w) ∧
    ∀ i ∈ Region.ready md ops listed, wpOp P ops Q i (fun a' w' => (noLate L (listed.setIfInBounds i true) = true → S w') ∧ wpAnyD P md ops Q S L fuel (listed.setIfInBounds i true) a' w') a w
theorem wpAny_of_D : ∀ (fuel : Nat) (listed : Array Bool) (a : Act) (w : World), wpAnyD P md ops Q S L fuel listed a w → wpAny P md ops Q fuel listed a w
  | 0, _, _, _, h => h
  | fuel + 1, _, _, _, h => ⟨h.1, fun i hi => wpOp_mono (fun a' w' h' => wpAny_of_D fuel _ a' w' h'.2) (h.2 i hi)⟩
/-- Every late operation waits for number i. -/
def lateB (md : Region.Mode) (ops : Array Oper) (L : List Nat) (i : Nat) : Bool :=
  L.all fun j => match ops[j]? with
    | some o => o.after.any fun e => Region.binds md e && e.on == i
    | none => true
theorem late_spec {i j : Nat} (h : lateB md ops L i = true) {o : Oper} (ho : ops[j]? = some o) (hj : j ∈ L) : ∃ e ∈ o.after, Region.binds md e = true ∧ e.on = i := by
  simp only [lateB, List.all_eq_true] at h
  have h1 := h j hj
  rw [ho] at h1
  obtain ⟨e, he, hb⟩ := Array.any_eq_true'.1 h1
  rw [Bool.and_eq_true, beq_iff_eq] at hb
  exact ⟨e, he, hb.1, hb.2⟩
theorem wpAnyD_first {i : Nat} {oi : Oper} {v : Value} (hi : ops[i]? = some oi) (hsel : ∀ (j : Nat) (o : Oper) cs b, ops[j]? = some o → o.op ≠ .select cs b)
    (hQ : ∀ c a w, Q (.panic c) (a.put oi.dst v) w → Q (.panic c) a w) : ∀ (fuel : Nat) (listed : Array Bool) (a : Act) (w : World),
      (∀ j oj, ops[j]? = some oj → j ≠ i → listed.getD j true = false → (∀ e ∈ oj.after, Region.binds md e = true → e.on ≠ i) → oi.apart ops oj = true) →
      i ∈ Region.ready md ops listed → (noLate L listed = true ∧ lateB md ops L i = true ∧ L.contains i = false ∧ YieldsIf P ops S oi v a ∧ S w) ∨ (noLate L listed = false ∧ YieldsIf P ops (fun _ => True) oi v a) →
      wpAnyD P md ops Q S L fuel (listed.setIfInBounds i true) (a.put oi.dst v) w → wpAnyD P md ops Q S L (fuel + 1) listed a w := by
  intro fuel
  have base : ∀ (listed : Array Bool) (a : Act) (w : World), (noLate L listed = true ∧ lateB md ops L i = true ∧ L.contains i = false ∧ YieldsIf P ops S oi v a ∧ S w) ∨ (noLate L listed = false ∧ YieldsIf P ops (fun _ => True) oi v a) → ∀ K : Act → World → Prop, K (a.put oi.dst v) w →
      wpOp P ops Q i (fun a' w' => (noLate L (listed.setIfInBounds i true) = true → S w') ∧ K a' w') a w := fun listed a w hy K hK => by
    rcases hy with ⟨h1, _, h3, h4, h5⟩ | ⟨h1, h2⟩
    · exact h4.wpOp hi h5 ⟨fun _ => h5, hK⟩
    · exact h2.wpOp hi trivial ⟨fun h => (by rw [noLate_mono h1] at h; cases h), hK⟩
  induction fuel with
  | zero =>
    intro listed a w _ hr hy H
    refine ⟨fun h => (by rw [h] at hr; cases hr), fun j hj => ?_⟩
    by_cases hji : j = i
    · subst hji
      exact base listed a w hy _ H
    · have := ready_mono hj hji
      rw [H.1] at this
      cases this
  | succ fuel ih =>
    intro listed a w hfree hr hy H
    refine ⟨fun h => (by rw [h] at hr; cases hr), fun j hj => ?_⟩
    by_cases hji : j = i
    · subst hji
      exact base listed a w hy _ H
    · have h1 := H.2 j (ready_mono hj hji)
      obtain ⟨hjun, oj, hoj, hall⟩ := mem_ready.1 hj
      have hnot : ∀ e ∈ oj.after, Region.binds md e = true → e.on ≠ i := fun e he hb heq => by
        have h1 := hall e he hb
        have h0 := (mem_ready.1 hr).1
        rw [heq] at h1
        rcases Nat.lt_or_ge i listed.size with h' | h'
        · simp [h'] at h0 h1; rw [h0] at h1; cases h1
        · simp [Array.getElem?_eq_none h'] at h1
      have hfree' : ∀ k ok, ops[k]? = some ok → k ≠ i → (listed.setIfInBounds j true).getD k true = false →
          (∀ e ∈ ok.after, Region.binds md e = true → e.on ≠ i) → oi.apart ops ok = true := fun k ok hk hki hun hno => by
        refine hfree k ok hk hki ?_ hno
        by_cases hjk : j = k
        · subst hjk; exact hjun
        · rw [getD_set_ne true hjk] at hun; exact hun
      have hap := hfree j oj hoj hji hjun hnot
      rcases hy with ⟨hnl, hl, hin, hy, hS⟩ | ⟨hnl, hy⟩
      · have hjn : L.contains j = false := by
          cases hc : L.contains j with
          | false => rfl
          | true =>
            obtain ⟨e, he, hb, ho⟩ := late_spec hl hoj (List.contains_iff_mem.1 hc)
            exact absurd ho (hnot e he hb)
        have h2 := wpOp_putIf hoj hap (fun cs b => hsel i oi cs b hi) (fun cs b => hsel j oj cs b hoj) hQ hy h1
        have hnl3 : noLate L ((listed.setIfInBounds i true).setIfInBounds j true) = true := noLate_set (noLate_set hnl hin) hjn
        refine wpOp_mono (fun a' w' h3 => ⟨fun _ => h3.2.1 hnl3, ih (listed.setIfInBounds j true) a' w' hfree' (ready_mono hr (Ne.symm hji)) (.inl ⟨noLate_set hnl hjn, hl, hin, h3.1, h3.2.1 hnl3⟩) ?_⟩) h2
        rw [Array.setIfInBounds_comm _ _ hji]
        exact h3.2.2
      · have h2 := wpOp_putIf hoj hap (fun cs b => hsel i oi cs b hi) (fun cs b => hsel j oj cs b hoj) hQ hy h1
        refine wpOp_mono (fun a' w' h3 => ⟨fun h => (by rw [noLate_mono hnl] at h; cases h), ih (listed.setIfInBounds j true) a' w' hfree' (ready_mono hr (Ne.symm hji)) (.inr ⟨noLate_mono hnl, h3.1⟩) ?_⟩) h2
        rw [Array.setIfInBounds_comm _ _ hji]
        exact h3.2.2
theorem wpAnyD_take {i : Nat} {oi : Oper} {v : Value} {fuel : Nat} {listed : Array Bool} {a : Act} {w : World} (hi : ops[i]? = some oi) (hl : lateB md ops L i = true)
    (hs : Region.noSelect ops = true) (hf : Region.free md ops listed i = true) (hr : (Region.ready md ops listed).contains i = true)
    (hQ : ∀ c a w, Q (.panic c) (a.put oi.dst v) w → Q (.panic c) a w) (hin : L.contains i = false) (hnl : noLate L listed = true) (hy : YieldsIf P ops S oi v a) (hS : S w)
    (h : wpAnyD P md ops Q S L fuel (listed.setIfInBounds i true) (a.put oi.dst v) w) : wpAnyD P md ops Q S L (fuel + 1) listed a w :=
  wpAnyD_first hi (Region.noSelect_spec hs) hQ fuel listed a w (Region.free_spec hi hf) (by simpa using hr) (.inl ⟨hnl, hl, hin, hy, hS⟩) h
theorem wpAnyD_takeY {i : Nat} {oi : Oper} {v : Value} {fuel : Nat} {listed : Array Bool} {a : Act} {w : World} (hi : ops[i]? = some oi)
    (hs : Region.noSelect ops = true) (hf : Region.free md ops listed i = true) (hr : (Region.ready md ops listed).contains i = true)
    (hQ : ∀ c a w, Q (.panic c) (a.put oi.dst v) w → Q (.panic c) a w) (hnl : noLate L listed = false) (hy : YieldsIf P ops (fun _ => True) oi v a)
    (h : wpAnyD P md ops Q S L fuel (listed.setIfInBounds i true) (a.put oi.dst v) w) : wpAnyD P md ops Q S L (fuel + 1) listed a w :=
  wpAnyD_first hi (Region.noSelect_spec hs) hQ fuel listed a w (Region.free_spec hi hf) (by simpa using hr) (.inr ⟨hnl, hy⟩) h
/-- Those that may come up, each in its turn. -/
def AllD (P : Program) (md : Region.Mode) (ops : Array Oper) (Q : Exit → Act → World → Prop) (S : World → Prop) (L : List Nat) (fuel : Nat) (listed : Array Bool) (a : Act) (w : World) (rs : List Nat) : Prop :=
  ∀ i ∈ rs, wpOp P ops Q i (fun a' w' => (noLate L (listed.setIfInBounds i true) = true → S w') ∧ wpAnyD P md ops Q S L fuel (listed.setIfInBounds i true) a' w') a w
theorem AllD.nil {fuel : Nat} {listed : Array Bool} {a : Act} {w : World} : AllD P md ops Q S L fuel listed a w [] := fun _ h => by cases h
theorem AllD.cons {i : Nat} {o : Oper} {rs : List Nat} {fuel : Nat} {listed : Array Bool} {a : Act} {w : World} (ho : ops[i]? = some o) (hw : Region.wanted o (yielded ops a.tmps) = true)
    (h : ∀ K' : Act → World → Prop, Shut (∀ a w, (noLate L (listed.setIfInBounds i true) = true → S w) → wpAnyD P md ops Q S L fuel (listed.setIfInBounds i true) a w → K' a w) → Oper.wp P o a w K' Q)
    (hs : AllD P md ops Q S L fuel listed a w rs) : AllD P md ops Q S L fuel listed a w (i :: rs) := fun j hj => by
  rcases List.mem_cons.1 hj with rfl | hj
  · unfold Go.wpOp
    simp only [ho, hw, if_true]
    exact .inl (h _ fun a w hS hk => ⟨hS, hk⟩)
  · exact hs j hj
theorem wpAnyD_all {rs : List Nat} {fuel : Nat} {listed : Array Bool} {a : Act} {w : World} (hr : Region.ready md ops listed = rs) (hne : rs ≠ []) (h : AllD P md ops Q S L fuel listed a w rs) : wpAnyD P md ops Q S L (fuel + 1) listed a w :=
  ⟨fun h0 => absurd (hr ▸ h0) hne, hr ▸ h⟩
theorem wpAnyD_done {listed : Array Bool} {a : Act} {w : World} (hr : Region.ready md ops listed = []) (h : Q .normal a w) : ∀ fuel, wpAnyD P md ops Q S L fuel listed a w
  | 0 => ⟨hr, h⟩
  | _ + 1 => ⟨fun _ => h, by rw [hr]; simp⟩
theorem wp_region_D (S : World → Prop) (L : List Nat) {id : Nat} {a : Act} {w : World} (hm : P.follows .mixedOrders = true) (h : wpAnyD P .any ops Q S L ops.size (Array.replicate ops.size false) a w.drew) : (Code.region id ops true).wp P Q a w :=
  wp_region_any hm (wpAny_of_D _ _ _ _ h)
end
end Go.Proofs.YtdakeodebgggfaaDoor
