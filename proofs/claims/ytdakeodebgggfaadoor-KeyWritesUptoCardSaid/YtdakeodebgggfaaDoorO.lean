/- From the form's reading of an argument to a reading by 'Rep'. -/
import Derived.Test.YtdakeodebgggfaaDoorW
import Derived.Deep.Slices
import Derived.ProofKit
import Derived.OpenShut
import Derived.ShutString
import Derived.ChangeOld
namespace Go.Proofs.YtdakeodebgggfaaDoor
open Go.RowKit Go.ChangeShapes Go.WideShapes Go.Deep

/-- Whatever of type t is read as data is read by r. -/
def Opens {α : Type} (P : Program) (t : TypeId) (r : Rep α) : Prop :=
  P.cellsOf t = r.size ∧ ∀ (H : Type) (enc : TypeId × Value → H) (w : World) (sp : Nat → Bool) (held : Bool) (fuel : Nat) (cs : List Value) (x : DataW H × List MemPlace), DataW.trod enc P w 0 sp held fuel t cs = some x → ∃ y, r.rd w (fun b => b < w.heap.size) cs y

section
variable {α : Type} {P : Program} {t e : TypeId}
theorem opens_u8 (ht : P.underlying t = some (.int .u8)) (hc : P.cellsOf t = 1) : Opens P t Rep.u8 :=
  ⟨hc, fun H enc w sp held fuel cs x h => by
    obtain ⟨n, rfl, _, hw⟩ := DataW.trod_int ht h
    have hb : 0 ≤ n ∧ n ≤ 255 := bounds_u8 hw
    exact ⟨ub n, rd_u8 (ub_val hb.1 hb.2)⟩⟩
theorem opens_i64 (ht : P.underlying t = some (.int .i64)) (hc : P.cellsOf t = 1) : Opens P t Rep.i64 :=
  ⟨hc, fun H enc w sp held fuel cs x h => by
    obtain ⟨n, rfl, _, hw⟩ := DataW.trod_int ht h
    exact ⟨n, rfl, bounds_i64 hw⟩⟩
theorem opens_bool (ht : P.underlying t = some .bool) (hc : P.cellsOf t = 1) : Opens P t Rep.bool :=
  ⟨hc, fun H enc w sp held fuel cs x h => by
    obtain ⟨b, rfl, _⟩ := DataW.trod_bool ht h
    exact ⟨b, rfl⟩⟩
theorem opens_str (ht : P.underlying t = some .string) (hc : P.cellsOf t = 1) : Opens P t Rep.str :=
  ⟨hc, fun H enc w sp held fuel cs x h => by
    obtain ⟨s, rfl, _, hs⟩ := DataW.trod_string ht h
    refine ⟨s.data.toList, by simp, ?_⟩
    simp only [maxLen] at hs
    have : s.data.toList.length = s.size := by rw [Array.length_toList]; rfl
    omega⟩
theorem opens_slice {r : Rep α} (ht : P.underlying t = some (.slice e)) (hc : P.cellsOf t = 1) (he : Opens P e r) : Opens P t r.slice :=
  ⟨hc, fun H enc w sp held fuel cs x h => by
    rcases open_slice ht h with ⟨rfl, _⟩ | ⟨a, len, cap, m, n, D, Pl, rfl, _, hl, hm, hmm, _, hi⟩
    · exact ⟨[], none, 0, 0, rfl, Rep.sl_nil⟩
    · have hlm : len ≤ m := by rw [hmm]; split <;> omega
      have hel : ∀ i, i < len → ∃ y, ∃ es : List Value, r.rd w (fun b => b < w.heap.size) es y ∧ ∀ j u, es[j]? = some u → w.cell? (a.add (i * r.size + j)) = some u := by
        intro i hi'
        obtain ⟨cs', h1, h2⟩ := hi i (by omega)
        obtain ⟨y, hy⟩ := he.2 H enc w sp held n cs' _ h2
        refine ⟨y, cs', hy, fun j u hu => ?_⟩
        obtain ⟨_, hcl, hat⟩ := World.cells?_some h1
        have hj : j < P.cellsOf e := by
          have := (List.getElem?_eq_some_iff.1 hu).1
          omega
        have := hat j hj
        rw [he.1] at this
        rw [← Go.Deep.add_add, this, hu]
      rcases Nat.eq_zero_or_pos len with h0 | hpos
      · subst h0
        exact ⟨[], _, 0, cap, rfl, rfl, by omega, by simpa [maxLen] using hm, fun h => absurd h (by omega)⟩
      · obtain ⟨y0, es0, hr0, hc0⟩ := hel 0 hpos
        have hne : 0 < es0.length := by rw [r.len hr0]; exact r.pos
        have hcell := hc0 0 es0[0] (List.getElem?_eq_getElem hne)
        simp only [Nat.zero_mul, Nat.add_zero] at hcell
        obtain ⟨b, off, spot⟩ := a
        have hspot : spot = none := by simpa [Addr.add] using World.cell?_spot hcell
        subst hspot
        have hlt : b < w.heap.size := by simpa [Addr.add] using World.block_lt_of_cell? w _ hcell
        have : Nonempty α := ⟨y0⟩
        let f : Nat → α := fun i => if h : i < len then Classical.choose (hel i h) else y0
        have hf : ∀ i (h : i < len), ∃ es : List Value, r.rd w (fun b => b < w.heap.size) es (f i) ∧ ∀ j u, es[j]? = some u → w.cell? (Addr.add ⟨b, off, none⟩ (i * r.size + j)) = some u := by
          intro i h
          have := Classical.choose_spec (hel i h)
          simpa [f, h] using this
        refine ⟨(List.range len).map f, some ⟨b, off, none⟩, len, cap, rfl, by simp, hl, by simpa [maxLen] using hm, fun _ => ⟨b, off, rfl, hlt, fun i x hx => ?_⟩⟩
        have hil : i < len := by
          have := (List.getElem?_eq_some_iff.1 hx).1
          simpa using this
        simp [hil] at hx
        subst hx
        obtain ⟨es, h1, h2⟩ := hf i hil
        refine ⟨es, h1, fun j u hu => ?_⟩
        have := h2 j u hu
        rw [Addr.add_lit] at this
        rw [← this, Nat.add_assoc]⟩

/-- A struct's part. -/
theorem trod_part {H : Type} {enc : TypeId × Value → H} {w : World} {base : Nat} {sp : Nat → Bool} {held : Bool} {fuel : Nat} {cs : List Value} {x : DataW H × List MemPlace} {fs : Array Field} (ht : P.underlying t = some (.struct fs)) (h : DataW.trod enc P w base sp held fuel t cs = some x)
    (i : Nat) {T o s : Nat} (hf : (fs.toList[i]?).map (fun f => (f.type, f.offset)) = some (T, o)) (hs : P.cellsOf T = s) : ∃ n y, DataW.trod enc P w base sp held n T ((cs.drop o).take s) = some y := by
  obtain ⟨xs, n, _, _, _, hl, hg⟩ := DataW.trod_struct ht h
  obtain ⟨f, h1, h2⟩ := Option.map_eq_some_iff.1 hf
  simp only [Prod.mk.injEq] at h2
  obtain ⟨rfl, rfl⟩ := h2
  have h1' : fs[i]? = some f := by simpa using h1
  have := hg i f h1'
  have hi : i < xs.length := by
    have := (Array.getElem?_eq_some_iff.1 h1').1
    omega
  rw [hs, List.getElem?_eq_getElem hi] at this
  exact ⟨n, _, this⟩
end
end Go.Proofs.YtdakeodebgggfaaDoor
