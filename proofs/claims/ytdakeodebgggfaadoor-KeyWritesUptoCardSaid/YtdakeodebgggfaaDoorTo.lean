/- The program: a value's clone. -/
import Derived.Test.YtdakeodebgggfaaDoorTn
import Derived.Test.YtdakeodebgggfaaDoorX
namespace Go.Proofs.YtdakeodebgggfaaDoor
open Go.RowKit
set_option linter.unusedVariables false
set_option linter.unusedSimpArgs false

theorem OwnB.down {w : World} {base base' : Nat} {v : Value} {xs : List UInt8} (h : OwnB w base v xs) (hb : base' ≤ base) : OwnB w base' v xs := by
  rcases h with h | ⟨g, cap, h1, h2, h3⟩
  · exact .inl h
  · exact .inr ⟨g, cap, h1, by omega, h3⟩
def ClonePostT (w : World) (t : Tree) (e : Ending) (w' : World) : Prop := ∃ A1 n1 c1 A2 n2 c2 A3 n3 c3, e = .returned (.agg #[.bool t.list, .bool t.hinted, .slice A1 n1 c1, .slice A2 n2 c2, .slice A3 n3 c3]) ∧
  Parts w' (fun b => w.heap.size ≤ b ∧ b < w'.heap.size) t A1 n1 c1 A2 n2 c2 A3 n3 c3 ∧ Below w.heap.size w w'
theorem ownS_later {w w1 : World} {e : TypeId} {base B : Nat} {v : Value} {xs : List Tree} (h : Rep.tree.own e w base (fun b => b < B) v xs) (hb : Below w.heap.size w w1) (hs : B ≤ w.heap.size) : Rep.tree.own e w1 base (fun b => b < B) v xs :=
  Rep.own_kept (row := none) h ⟨hb.os, hb.tape, hb.output, hb.size, fun k hk _ => hb.block k hk⟩ (by cases hv : v.ownBlock <;> simp) fun b h => ⟨by omega, by simp⟩

theorem OwnB.far {w : World} {base : Nat} {v : Value} {xs : List UInt8} {p : Addr} (h : OwnB w base v xs) (hp : p.block < base) (u : Value) : OwnB (w.setCell p u) base v xs :=
  h.keep (row := some p.block) ⟨rfl, rfl, rfl, by simp [World.setCell], fun k _ hk => Below.heap_setCell w p u k (by rintro rfl; exact hk rfl)⟩ (by
    rcases h with ⟨rfl, _⟩ | ⟨g, cap, rfl, hb, _⟩
    · exact .inl rfl
    · right
      simp only [Value.ownBlock, ne_eq, Option.some.injEq]
      omega)
theorem ownT_far {w : World} {e : TypeId} {base B : Nat} {v : Value} {xs : List Tree} {p : Addr} (h : Rep.tree.own e w base (fun b => b < B) v xs) (hp : p.block < base) (hB : B ≤ p.block) (hw : B ≤ w.heap.size) (u : Value) : Rep.tree.own e (w.setCell p u) base (fun b => b < B) v xs :=
  Rep.own_kept (row := some p.block) h ⟨rfl, rfl, rfl, by simp [World.setCell], fun k _ hk => Below.heap_setCell w p u k (by rintro rfl; exact hk rfl)⟩ (by
    cases hv : v.ownBlock with
    | none => exact .inl rfl
    | some g =>
      have := (Rep.own_lt h g hv).1
      right
      simp only [ne_eq, Option.some.injEq]
      omega) fun b hb => ⟨by omega, by simp only [ne_eq, Option.some.injEq]; omega⟩
/-- A row of values, the first k of which are clones. -/
def RowB (w0 w : World) (base : Nat) (v : Value) (ks : List Tree) (k : Nat) : Prop :=
  (v = .slice none 0 0 ∧ ks = []) ∨ ∃ g cap cur, v = .slice (some ⟨g, 0, none⟩) ks.length cap ∧ base ≤ g ∧ w.heap[g]? = some (.cells cur 25 (0, 0)) ∧ ks.length ≤ cap ∧ cap ≤ 9223372036854775807 ∧ cur.size = cap * 5 ∧
    ∀ i x, ks[i]? = some x → Rep.tree.rd w (fun b => if i < k then base ≤ b ∧ b < w.heap.size ∧ b ≠ g else b < w0.heap.size) ((cur.toList.drop (i * 5)).take 5) x
theorem RowB.of_own {w0 w : World} {base : Nat} {v : Value} {ks : List Tree} (h : Rep.tree.own 25 w base (fun b => b < w0.heap.size) v ks) : RowB w0 w base v ks 0 := by
  obtain ⟨cells, ho, hr⟩ := h
  rcases ho.2 with ⟨rfl, hn⟩ | ⟨g, cap, cur, rfl, hb, hg, hc1, hc2, hc3, hc4⟩
  · exact .inl ⟨rfl, List.eq_nil_of_length_eq_zero hn⟩
  · refine .inr ⟨g, cap, cur, rfl, hb, hg, hc1, by simpa [maxLen] using hc2, hc3, fun i x hx => ?_⟩
    have h1 := hr i x hx
    have hi : i < ks.length := (List.getElem?_eq_some_iff.1 hx).1
    simp only [show Rep.tree.size = 5 from rfl] at h1 hc4 hc3 ho
    have e : (cells.drop (i * 5)).take 5 = (cur.toList.drop (i * 5)).take 5 := by
      refine List.ext_getElem? fun j => ?_
      rw [List.getElem?_take, List.getElem?_take, List.getElem?_drop, List.getElem?_drop]
      split
      · rename_i hj
        have hl := ho.1
        have hlt : i * 5 + j < cells.length := by omega
        have h2 := ho.cells (g := g) rfl _ _ (List.getElem?_eq_getElem hlt)
        rw [Addr.add_lit, Nat.zero_add, cell_of_row w g _ cur _ (0, 0) hg] at h2
        rw [List.getElem?_eq_getElem hlt, Array.getElem?_toList, h2]
      · rfl
    rw [← e]
    exact Rep.tree.more h1 fun b hb => by simpa using hb
theorem RowB.later {w0 w w1 : World} {base : Nat} {v : Value} {ks : List Tree} {k : Nat} (h : RowB w0 w base v ks k) (hB : Below w.heap.size w w1) (hs : w0.heap.size ≤ w.heap.size) : RowB w0 w1 base v ks k := by
  rcases h with h | ⟨g, cap, cur, rfl, hb, hg, h1, h2, h3, h4⟩
  · exact .inl h
  · refine .inr ⟨g, cap, cur, rfl, hb, box_below hg hB (Array.getElem?_eq_some_iff.1 hg).1, h1, h2, h3, fun i x hx => ?_⟩
    have hz := hB.size
    refine Rep.tree.more (Rep.tree.below (h4 i x hx) hB fun b hb => ?_) fun b hb => ?_
    · split at hb <;> omega
    · split at hb
      · rename_i hi
        rw [if_pos hi]
        omega
      · rename_i hi
        rw [if_neg hi]
        exact hb
theorem seg_at {l : List Value} {n : Nat} {a b c d e : Value} (h : (l.drop n).take 5 = [a, b, c, d, e]) : l[n]? = some a ∧ l[n + 1]? = some b ∧ l[n + 2]? = some c ∧ l[n + 3]? = some d ∧ l[n + 4]? = some e := by
  have hj : ∀ j, j < 5 → l[n + j]? = [a, b, c, d, e][j]? := fun j hj => by
    rw [← h, List.getElem?_take, if_pos hj, List.getElem?_drop]
  have h0 := hj 0 (by omega)
  rw [Nat.add_zero] at h0
  exact ⟨h0, hj 1 (by omega), hj 2 (by omega), hj 3 (by omega), hj 4 (by omega)⟩
/-- Five cells stored in a row. -/
def put5 (w : World) (g o : Nat) (a b c d e : Value) : World := ((((w.setCell ⟨g, o, none⟩ a).setCell ⟨g, o + 1, none⟩ b).setCell ⟨g, o + 2, none⟩ c).setCell ⟨g, o + 3, none⟩ d).setCell ⟨g, o + 4, none⟩ e
theorem put5_grown (w : World) (g o : Nat) (a b c d e : Value) : w.grownBy (put5 w g o a b c d e) (some g) :=
  grownBy_set (grownBy_set (grownBy_set (grownBy_set (grownBy_set (World.grownBy.refl w _) a) b) c) d) e
theorem put5_size (w : World) (g o : Nat) (a b c d e : Value) : (put5 w g o a b c d e).heap.size = w.heap.size := by
  simp only [put5, World.size_setCell]
theorem put5_box {w : World} {g : Nat} {cur : Array Value} {t : TypeId} (h : w.heap[g]? = some (.cells cur t (0, 0))) (o : Nat) (a b c d e : Value) : (put5 w g o a b c d e).heap[g]? = some (.cells (((((cur.setIfInBounds o a).setIfInBounds (o + 1) b).setIfInBounds (o + 2) c).setIfInBounds (o + 3) d).setIfInBounds (o + 4) e) t (0, 0)) :=
  box_set (box_set (box_set (box_set (box_set h a) b) c) d) e
theorem seg_put {l : List Value} {k : Nat} (a b c d e : Value) (h : k * 5 + 5 ≤ l.length) (i : Nat) :
    ((((((l.set (k * 5) a).set (k * 5 + 1) b).set (k * 5 + 2) c).set (k * 5 + 3) d).set (k * 5 + 4) e).drop (i * 5)).take 5 = if i = k then [a, b, c, d, e] else (l.drop (i * 5)).take 5 := by
  refine List.ext_getElem? fun j => ?_
  rw [List.getElem?_take, List.getElem?_drop]
  by_cases hj : j < 5
  · rw [if_pos hj]
    simp only [List.getElem?_set, List.length_set]
    by_cases hi : i = k
    · subst hi
      rw [if_pos rfl]
      have : j = 0 ∨ j = 1 ∨ j = 2 ∨ j = 3 ∨ j = 4 := by omega
      rcases this with rfl | rfl | rfl | rfl | rfl
      · rw [if_neg (by omega), if_neg (by omega), if_neg (by omega), if_neg (by omega), if_pos (by omega), if_pos (by omega)]
        rfl
      · rw [if_neg (by omega), if_neg (by omega), if_neg (by omega), if_pos (by omega), if_pos (by omega)]
        rfl
      · rw [if_neg (by omega), if_neg (by omega), if_pos (by omega), if_pos (by omega)]
        rfl
      · rw [if_neg (by omega), if_pos (by omega), if_pos (by omega)]
        rfl
      · rw [if_pos (by omega), if_pos (by omega)]
        rfl
    · rw [if_neg hi, if_neg (by omega), if_neg (by omega), if_neg (by omega), if_neg (by omega), if_neg (by omega), List.getElem?_take, if_pos hj, List.getElem?_drop]
  · rw [if_neg hj]
    symm
    split
    · rw [List.getElem?_eq_none]
      simp
      omega
    · rw [List.getElem?_take, if_neg hj]
theorem RowB.put {w0 w : World} {base g n cap k : Nat} {ks : List Tree} {x : Tree} {A1 A2 A3 : Option Addr} {n1 c1 n2 c2 n3 c3 : Nat} (h : RowB w0 w base (.slice (some ⟨g, 0, none⟩) n cap) ks k) (hx : ks[k]? = some x)
    (hp : Parts w (fun b => base ≤ b ∧ b < w.heap.size ∧ b ≠ g) x A1 n1 c1 A2 n2 c2 A3 n3 c3) (hs : w0.heap.size ≤ base) :
    RowB w0 (put5 w g (k * 5) (.bool x.list) (.bool x.hinted) (.slice A1 n1 c1) (.slice A2 n2 c2) (.slice A3 n3 c3)) base (.slice (some ⟨g, 0, none⟩) n cap) ks (k + 1) := by
  rcases h with ⟨e, _⟩ | ⟨g', cap', cur, e, hb, hg, h1, h2, h3, h4⟩
  · cases e
  · injection e with e1 e2 e3
    injection e1 with e1
    injection e1 with e1
    subst e1 e2 e3
    have hk : k < ks.length := (List.getElem?_eq_some_iff.1 hx).1
    have hkeep : ∀ (S : Nat → Prop) (cs : List Value) (y : Tree), (∀ b, S b → b < w.heap.size ∧ b ≠ g) → Rep.tree.rd w S cs y → Rep.tree.rd (put5 w g (k * 5) (.bool x.list) (.bool x.hinted) (.slice A1 n1 c1) (.slice A2 n2 c2) (.slice A3 n3 c3)) S cs y :=
      fun S cs y hS h => Rep.tree.grown h (put5_grown ..) fun b hb => ⟨(hS b hb).1, by have := (hS b hb).2; simpa using this⟩
    refine .inr ⟨g, cap, _, rfl, hb, put5_box hg _ _ _ _ _ _, h1, h2, by simpa using h3, fun i y hy => ?_⟩
    rw [put5_size]
    simp only [Array.toList_setIfInBounds]
    rw [seg_put _ _ _ _ _ (by rw [Array.length_toList, h3]; omega) i]
    by_cases hi : i = k
    · subst hi
      rw [hx] at hy
      injection hy with hy
      subst hy
      rw [if_pos rfl]
      exact hkeep _ _ _ (fun b hb => by rw [if_pos (by omega)] at hb; exact hb.2) (Rep.tree.more (Rep.tree_mk hp) fun b hb => by rw [if_pos (by omega)]; exact hb)
    · rw [if_neg hi]
      refine hkeep _ _ _ (fun b hb => ?_) (Rep.tree.more (h4 i y hy) fun b hb => ?_)
      · split at hb
        · exact hb.2
        · have := (Array.getElem?_eq_some_iff.1 hg).1
          omega
      · split at hb
        · rw [if_pos (by omega)]
          exact hb
        · rw [if_neg (by omega)]
          exact hb
theorem RowB.sl {w0 w : World} {base n c : Nat} {A : Option Addr} {ks : List Tree} (h : RowB w0 w base (.slice A n c) ks ks.length) : Rep.tree.sl w (fun b => base ≤ b ∧ b < w.heap.size) A n c ks := by
  rcases h with ⟨e, rfl⟩ | ⟨g, cap, cur, e, hb, hg, h1, h2, h3, h4⟩
  · injection e with e1 e2 e3
    subst e1 e2 e3
    exact Rep.sl_nil
  · injection e with e1 e2 e3
    subst e1 e2 e3
    have hgl := (Array.getElem?_eq_some_iff.1 hg).1
    refine ⟨rfl, h1, h2, fun _ => ⟨g, 0, rfl, ⟨hb, hgl⟩, fun i x hx => ⟨_, Rep.tree.more (h4 i x hx) fun b hb => ?_, fun j u hu => ?_⟩⟩⟩
    · rw [if_pos (List.getElem?_eq_some_iff.1 hx).1] at hb
      exact ⟨hb.1, hb.2.1⟩
    · have hj : j < 5 := by
        have := (List.getElem?_eq_some_iff.1 hu).1
        have hl := Rep.tree.len (h4 i x hx)
        rw [hl] at this
        exact this
      rw [List.getElem?_take, if_pos hj, List.getElem?_drop] at hu
      rw [show Rep.tree.size = 5 from rfl, Nat.zero_add]
      exact boxed hg _ _ hu
theorem RowB.far {w0 w : World} {base : Nat} {v : Value} {ks : List Tree} {k : Nat} {p : Addr} (h : RowB w0 w base v ks k) (hp : p.block < base) (hp2 : w0.heap.size ≤ p.block) (u : Value) : RowB w0 (w.setCell p u) base v ks k := by
  rcases h with h | ⟨g, cap, cur, rfl, hb, hg, h1, h2, h3, h4⟩
  · exact .inl h
  · refine .inr ⟨g, cap, cur, rfl, hb, box_far hg (by omega) u, h1, h2, h3, fun i x hx => ?_⟩
    rw [World.size_setCell]
    refine Rep.tree.keep (h4 i x hx) fun q hq => cell_far (fun e => ?_)
    split at hq <;> omega
theorem OwnB.sl_in {w : World} {base n c : Nat} {A : Option Addr} {xs : List UInt8} (h : OwnB w base (.slice A n c) xs) : Rep.u8.sl w (fun b => base ≤ b ∧ b < w.heap.size) A n c xs := by
  have hl := h.lt
  obtain ⟨A', c', e, hs⟩ := h.sl
  injection e with e1 e2 e3
  subst e1 e2 e3
  exact Rep.sl_more hs hl
/-- What stands behind the clones of a value's three rows. -/
def Cloned (w : World) (t : Tree) (A1 : Option Addr) (n1 c1 : Nat) (A2 : Option Addr) (n2 c2 : Nat) (A3 : Option Addr) (n3 c3 : Nat) (e : Exit) (a : Act) (w' : World) : Prop :=
  e = .normal ∧ ∃ m AH cH AD cD AK cK, w.heap.size + 2 ≤ m ∧ m ≤ w'.heap.size ∧ a = { tmps := #[.agg #[.bool t.list, .bool t.hinted, .slice A1 n1 c1, .slice A2 n2 c2, .slice A3 n3 c3], .pointer (some ⟨w.heap.size, 0, none⟩), .pointer (some ⟨w.heap.size + 1, 0, none⟩), undef, undef,
    .pointer (some ⟨w.heap.size, 2, none⟩), .slice A1 n1 c1, .slice AH t.hint.length cH, .pointer (some ⟨w.heap.size, 3, none⟩), .slice A2 n2 c2, .slice AD t.data.length cD, .pointer (some ⟨w.heap.size, 4, none⟩), .slice A3 n3 c3, .slice AK t.kids.length cK,
    .pointer (some ⟨w.heap.size, 2, none⟩), .pointer (some ⟨w.heap.size, 3, none⟩), .pointer (some ⟨w.heap.size, 4, none⟩), undef, undef, undef, undef, undef, undef, undef, undef, undef, undef, undef, undef, undef, undef, undef, undef], defers := [] } ∧
    w'.heap[w.heap.size]? = some (.cells #[.bool t.list, .bool t.hinted, .slice AH t.hint.length cH, .slice AD t.data.length cD, .slice AK t.kids.length cK] 25 (0, 0)) ∧
    w'.heap[w.heap.size + 1]? = some (.cells #[.bool false, .bool false, .slice none 0 0, .slice none 0 0, .slice none 0 0] 25 (0, 0)) ∧
    Rep.u8.sl w' (fun b => w.heap.size + 2 ≤ b ∧ b < m) AH t.hint.length cH t.hint ∧ Rep.u8.sl w' (fun b => w.heap.size + 2 ≤ b ∧ b < m) AD t.data.length cD t.data ∧ Rep.tree.own 25 w' m (fun b => b < w.heap.size) (.slice AK t.kids.length cK) t.kids ∧ Below w.heap.size w w'
theorem box_drew {w : World} {g : Nat} {x : Obj} (h : w.heap[g]? = some x) : w.drew.heap[g]? = some x := h
set_option maxHeartbeats 2000000 in
set_option maxRecDepth 100000 in
theorem sxclone_c (t : Tree) : ∀ (w : World) (cs : List Value), Rep.tree.rd w (fun b => b < w.heap.size) cs t → t.wt ≤ 100000000 → Calls Tryd.prog 38 #[.agg cs.toArray] w (ClonePostT w t) := by
  refine Tree.ind (P := fun t => ∀ (w : World) (cs : List Value), Rep.tree.rd w (fun b => b < w.heap.size) cs t → t.wt ≤ 100000000 → Calls Tryd.prog 38 #[.agg cs.toArray] w (ClonePostT w t)) (fun t ih => ?_) t
  intro w cs h hw
  obtain ⟨A1, n1, c1, A2, n2, c2, A3, n3, c3, rfl, hp⟩ := Rep.tree_open h
  have IH := Lib.hid ih
  have HW := Lib.hid hw
  have HP1 := Lib.hid hp.1
  have HP2 := Lib.hid hp.2.1
  have HK := Lib.hid hp.2.2
  have hn1 : n1 ≤ 1000000000 := by have := t.wt_hint; have := hp.1.1; omega
  have hn2 : n2 ≤ 1000000000 := by have := t.wt_data; have := hp.2.1.1; omega
  have hn3 : n3 ≤ 1000000000 := by have := t.wt_kids; have := hp.2.2.1; omega
  clear ih hw hp h
  have hbx0 := box_drew (box_alloc (box_new w #[.bool t.list, .bool t.hinted, .slice A1 n1 c1, .slice A2 n2 c2, .slice A3 n3 c3] 25) (.cells #[.bool false, .bool false, .slice none 0 0, .slice none 0 0, .slice none 0 0] 25))
  have hrx0 := box_drew (box_new1 (w := w) (o := .cells #[.bool t.list, .bool t.hinted, .slice A1 n1 c1, .slice A2 n2 c2, .slice A3 n3 c3] 25) (cs := #[.bool false, .bool false, .slice none 0 0, .slice none 0 0, .slice none 0 0]) (t := 25))
  have HX := Lib.hid ((Below.alloc (Below.refl _ w) (Nat.le_refl _) (.cells #[.bool t.list, .bool t.hinted, .slice A1 n1 c1, .slice A2 n2 c2, .slice A3 n3 c3] 25)).alloc (by simp only [World.size_alloc]; omega) (.cells #[.bool false, .bool false, .slice none 0 0, .slice none 0 0, .slice none 0 0] 25)).drew
  go_enter Tryd.func38, Tryd.ntmps38
  have hlb := (Array.getElem?_eq_some_iff.1 hbx0).1
  have hlr := (Array.getElem?_eq_some_iff.1 hrx0).1
  go_wp2_with fail
  have hS : ((w.alloc (.cells #[.bool t.list, .bool t.hinted, .slice A1 n1 c1, .slice A2 n2 c2, .slice A3 n3 c3] 25)).alloc (.cells #[.bool false, .bool false, .slice none 0 0, .slice none 0 0, .slice none 0 0] 25)).drew.heap[w.heap.size]? = some (.cells #[.bool t.list, .bool t.hinted, .slice A1 n1 c1, .slice A2 n2 c2, .slice A3 n3 c3] 25 (0, 0)) := hbx0
  have hww : w.heap.size ≠ w.heap.size + 1 := by omega
  refine Code.wp_mono (Q := Cloned w t A1 n1 c1 A2 n2 c2 A3 n3 c3) ?_ ?_
  case refine_2 =>
    refine wp_region_D (fun w' => w'.heap[w.heap.size]? = some (.cells #[.bool t.list, .bool t.hinted, .slice A1 n1 c1, .slice A2 n2 c2, .slice A3 n3 c3] 25 (0, 0))) [10, 12, 14] (by kernel_rfl) ?_
    refine wpAnyD_take (i := 0) (v := (.pointer (some ⟨w.heap.size, 2, none⟩))) rfl (by kernel_rfl) (by kernel_rfl) (by kernel_rfl) (by kernel_rfl) (fun _ _ _ h => by first | exact h | cases h.1) (by rfl) (by kernel_rfl) (Or.inl ⟨by rfl, ?_⟩) hS ?_
    · intro w' hw'
      (try dsimp only at hw')
      go_simp
    (try simp only [List.getElem_toArray, List.getElem_cons_zero, List.getElem_cons_succ, Act.put, List.setIfInBounds_toArray, List.set_cons_zero, List.set_cons_succ])
    refine wpAnyD_take (i := 1) (v := (.slice A1 n1 c1)) rfl (by kernel_rfl) (by kernel_rfl) (by kernel_rfl) (by kernel_rfl) (fun _ _ _ h => by first | exact h | cases h.1) (by rfl) (by kernel_rfl) (Or.inl ⟨by rfl, ?_⟩) hS ?_
    · intro w' hw'
      (try dsimp only at hw')
      (have c := boxed hw' 2 _ rfl; go_simp)
    (try simp only [List.getElem_toArray, List.getElem_cons_zero, List.getElem_cons_succ, Act.put, List.setIfInBounds_toArray, List.set_cons_zero, List.set_cons_succ])
    refine wpAnyD_take (i := 3) (v := (.pointer (some ⟨w.heap.size, 3, none⟩))) rfl (by kernel_rfl) (by kernel_rfl) (by kernel_rfl) (by kernel_rfl) (fun _ _ _ h => by first | exact h | cases h.1) (by rfl) (by kernel_rfl) (Or.inl ⟨by rfl, ?_⟩) hS ?_
    · intro w' hw'
      (try dsimp only at hw')
      go_simp
    (try simp only [List.getElem_toArray, List.getElem_cons_zero, List.getElem_cons_succ, Act.put, List.setIfInBounds_toArray, List.set_cons_zero, List.set_cons_succ])
    refine wpAnyD_take (i := 4) (v := (.slice A2 n2 c2)) rfl (by kernel_rfl) (by kernel_rfl) (by kernel_rfl) (by kernel_rfl) (fun _ _ _ h => by first | exact h | cases h.1) (by rfl) (by kernel_rfl) (Or.inl ⟨by rfl, ?_⟩) hS ?_
    · intro w' hw'
      (try dsimp only at hw')
      (have c := boxed hw' 3 _ rfl; go_simp)
    (try simp only [List.getElem_toArray, List.getElem_cons_zero, List.getElem_cons_succ, Act.put, List.setIfInBounds_toArray, List.set_cons_zero, List.set_cons_succ])
    refine wpAnyD_take (i := 6) (v := (.pointer (some ⟨w.heap.size, 4, none⟩))) rfl (by kernel_rfl) (by kernel_rfl) (by kernel_rfl) (by kernel_rfl) (fun _ _ _ h => by first | exact h | cases h.1) (by rfl) (by kernel_rfl) (Or.inl ⟨by rfl, ?_⟩) hS ?_
    · intro w' hw'
      (try dsimp only at hw')
      go_simp
    (try simp only [List.getElem_toArray, List.getElem_cons_zero, List.getElem_cons_succ, Act.put, List.setIfInBounds_toArray, List.set_cons_zero, List.set_cons_succ])
    refine wpAnyD_take (i := 7) (v := (.slice A3 n3 c3)) rfl (by kernel_rfl) (by kernel_rfl) (by kernel_rfl) (by kernel_rfl) (fun _ _ _ h => by first | exact h | cases h.1) (by rfl) (by kernel_rfl) (Or.inl ⟨by rfl, ?_⟩) hS ?_
    · intro w' hw'
      (try dsimp only at hw')
      (have c := boxed hw' 4 _ rfl; go_simp)
    (try simp only [List.getElem_toArray, List.getElem_cons_zero, List.getElem_cons_succ, Act.put, List.setIfInBounds_toArray, List.set_cons_zero, List.set_cons_succ])
    refine wpAnyD_all (rs := [2]) (by kernel_rfl) (by simp) (AllD.cons rfl (by rfl) (fun K hK => ?_) AllD.nil)
    go_simp
    refine Calls.mono (bclone_c t.hint A1 n1 c1 _ (sl_later HP1.out HX.out) hn1) ?_
    rintro e w2 ⟨vH, rfl, honH, hB⟩
    obtain ⟨AH, cH, rfl, hsH⟩ := honH.sl_all
    have HOH := Lib.hid (honH.down (base' := w.heap.size + 2) (by have := hlr; omega))
    have hbx0 := box_below hbx0 hB hlb
    have hrx0 := box_below hrx0 hB hlr
    have hlb := Nat.lt_of_lt_of_le hlb hB.size
    have hlr := Nat.lt_of_lt_of_le hlr hB.size
    have HX := Lib.hid (below_then HX.out hB)
    have f2 := boxed_frozen hbx0 2
    have f3 := boxed_frozen hbx0 3
    have f4 := boxed_frozen hbx0 4
    have h2 := boxed hbx0 2 _ rfl
    have h3 := boxed hbx0 3 _ rfl
    have h4 := boxed hbx0 4 _ rfl
    have hS := hbx0
    clear hsH honH hB
    dsimp only
    refine hK.out _ _ (fun _ => hbx0) ?_
    clear hK K
    (try simp only [List.getElem_toArray, List.getElem_cons_zero, List.getElem_cons_succ, Act.put, List.setIfInBounds_toArray, List.set_cons_zero, List.set_cons_succ])
    refine wpAnyD_take (i := 9) (v := (.pointer (some ⟨w.heap.size, 2, none⟩))) rfl (by kernel_rfl) (by kernel_rfl) (by kernel_rfl) (by kernel_rfl) (fun _ _ _ h => by first | exact h | cases h.1) (by rfl) (by kernel_rfl) (Or.inl ⟨by rfl, ?_⟩) hS ?_
    · intro w' hw'
      (try dsimp only at hw')
      go_simp
    (try simp only [List.getElem_toArray, List.getElem_cons_zero, List.getElem_cons_succ, Act.put, List.setIfInBounds_toArray, List.set_cons_zero, List.set_cons_succ])
    refine wpAnyD_all (rs := [5]) (by kernel_rfl) (by simp) (AllD.cons rfl (by rfl) (fun K hK => ?_) AllD.nil)
    go_simp
    refine Calls.mono (bclone_c t.data A2 n2 c2 _ (sl_later HP2.out HX.out) hn2) ?_
    rintro e w3 ⟨vD, rfl, honD, hB⟩
    obtain ⟨AD, cD, rfl, hsD⟩ := honD.sl_all
    have HOD := Lib.hid (honD.down (base' := w.heap.size + 2) (by have := hlr; omega))
    have HOH := Lib.hid (HOH.out.later hB)
    have hbx0 := box_below hbx0 hB hlb
    have hrx0 := box_below hrx0 hB hlr
    have hlb := Nat.lt_of_lt_of_le hlb hB.size
    have hlr := Nat.lt_of_lt_of_le hlr hB.size
    have HX := Lib.hid (below_then HX.out hB)
    have f2 := boxed_frozen hbx0 2
    have f3 := boxed_frozen hbx0 3
    have f4 := boxed_frozen hbx0 4
    have h2 := boxed hbx0 2 _ rfl
    have h3 := boxed hbx0 3 _ rfl
    have h4 := boxed hbx0 4 _ rfl
    have hS := hbx0
    clear hsD honD hB
    dsimp only
    refine hK.out _ _ (fun _ => hbx0) ?_
    clear hK K
    (try simp only [List.getElem_toArray, List.getElem_cons_zero, List.getElem_cons_succ, Act.put, List.setIfInBounds_toArray, List.set_cons_zero, List.set_cons_succ])
    refine wpAnyD_all (rs := [8]) (by kernel_rfl) (by simp) (AllD.cons rfl (by rfl) (fun K hK => ?_) AllD.nil)
    go_simp
    refine Calls.mono (sclone_c t.kids A3 n3 c3 _ (fun b => b < w.heap.size) (fun b hb => by have := hlb; omega) (Rep.sl_below HK.out HX.out fun _ h => h) hn3) ?_
    rintro e w4 ⟨vK, rfl, honK, hB⟩
    obtain ⟨AK, cK, rfl, hsK⟩ := Rep.own_sl honK
    have HOK := Lib.hid honK
    have HSH := Lib.hid (Rep.sl_below HOH.out.sl_in hB fun b hb => hb.2)
    have HSD := Lib.hid (Rep.sl_below HOD.out.sl_in hB fun b hb => hb.2)
    have HM := Lib.hid hB.size
    have HM2 : Hid (w.heap.size + 2 ≤ w3.heap.size) := hlr
    have hbx0 := box_below hbx0 hB hlb
    have hrx0 := box_below hrx0 hB hlr
    have hlb := Nat.lt_of_lt_of_le hlb hB.size
    have hlr := Nat.lt_of_lt_of_le hlr hB.size
    have HX := Lib.hid (below_then HX.out hB)
    have f2 := boxed_frozen hbx0 2
    have f3 := boxed_frozen hbx0 3
    have f4 := boxed_frozen hbx0 4
    have h2 := boxed hbx0 2 _ rfl
    have h3 := boxed hbx0 3 _ rfl
    have h4 := boxed hbx0 4 _ rfl
    clear hsK honK HOH HOD hS hB
    have hm1 := HM.out
    have hm2 := HM2.out
    dsimp only
    refine hK.out _ _ (fun _ => hbx0) ?_
    clear hK K
    (try simp only [List.getElem_toArray, List.getElem_cons_zero, List.getElem_cons_succ, Act.put, List.setIfInBounds_toArray, List.set_cons_zero, List.set_cons_succ])
    refine wpAnyD_all (rs := [10]) (by kernel_rfl) (by simp) (AllD.cons rfl (by rfl) (fun K hK => ?_) AllD.nil)
    go_simp
    refine hK.out _ _ (fun h => absurd h (by decide)) ?_
    clear hK K
    (try simp only [List.getElem_toArray, List.getElem_cons_zero, List.getElem_cons_succ, Act.put, List.setIfInBounds_toArray, List.set_cons_zero, List.set_cons_succ])
    have hbx0 := box_set (j := 2) hbx0 (.slice AH t.hint.length cH)
    have hrx0 := box_far (p := ⟨w.heap.size, 2, none⟩) hrx0 (by simp only; omega) (.slice AH t.hint.length cH)
    have HX := Lib.hid (Below.setCell (p := ⟨w.heap.size, 2, none⟩) HX.out (by simp only; omega) (.slice AH t.hint.length cH))
    have HSH := Lib.hid (Rep.sl_setFar (g := w.heap.size) (j := 2) (u := (.slice AH t.hint.length cH)) HSH.out (fun b hb => by omega))
    have HSD := Lib.hid (Rep.sl_setFar (g := w.heap.size) (j := 2) (u := (.slice AH t.hint.length cH)) HSD.out (fun b hb => by omega))
    have HOK := Lib.hid (ownT_far (p := ⟨w.heap.size, 2, none⟩) HOK.out (by simp only; omega) (by simp only; omega) (by (try simp only [World.size_setCell]); omega) (.slice AH t.hint.length cH))
    refine wpAnyD_takeY (i := 11) (v := (.pointer (some ⟨w.heap.size, 3, none⟩))) rfl (by kernel_rfl) (by kernel_rfl) (by kernel_rfl) (fun _ _ _ h => by first | exact h | cases h.1) (by kernel_rfl) (Or.inl ⟨by rfl, ?_⟩) ?_
    · intro w' hw'
      go_simp
    (try simp only [List.getElem_toArray, List.getElem_cons_zero, List.getElem_cons_succ, Act.put, List.setIfInBounds_toArray, List.set_cons_zero, List.set_cons_succ])
    refine wpAnyD_all (rs := [12]) (by kernel_rfl) (by simp) (AllD.cons rfl (by rfl) (fun K hK => ?_) AllD.nil)
    go_simp
    refine hK.out _ _ (fun h => absurd h (by decide)) ?_
    clear hK K
    (try simp only [List.getElem_toArray, List.getElem_cons_zero, List.getElem_cons_succ, Act.put, List.setIfInBounds_toArray, List.set_cons_zero, List.set_cons_succ])
    have hbx0 := box_set (j := 3) hbx0 (.slice AD t.data.length cD)
    have hrx0 := box_far (p := ⟨w.heap.size, 3, none⟩) hrx0 (by simp only; omega) (.slice AD t.data.length cD)
    have HX := Lib.hid (Below.setCell (p := ⟨w.heap.size, 3, none⟩) HX.out (by simp only; omega) (.slice AD t.data.length cD))
    have HSH := Lib.hid (Rep.sl_setFar (g := w.heap.size) (j := 3) (u := (.slice AD t.data.length cD)) HSH.out (fun b hb => by omega))
    have HSD := Lib.hid (Rep.sl_setFar (g := w.heap.size) (j := 3) (u := (.slice AD t.data.length cD)) HSD.out (fun b hb => by omega))
    have HOK := Lib.hid (ownT_far (p := ⟨w.heap.size, 3, none⟩) HOK.out (by simp only; omega) (by simp only; omega) (by (try simp only [World.size_setCell]); omega) (.slice AD t.data.length cD))
    refine wpAnyD_takeY (i := 13) (v := (.pointer (some ⟨w.heap.size, 4, none⟩))) rfl (by kernel_rfl) (by kernel_rfl) (by kernel_rfl) (fun _ _ _ h => by first | exact h | cases h.1) (by kernel_rfl) (Or.inl ⟨by rfl, ?_⟩) ?_
    · intro w' hw'
      go_simp
    (try simp only [List.getElem_toArray, List.getElem_cons_zero, List.getElem_cons_succ, Act.put, List.setIfInBounds_toArray, List.set_cons_zero, List.set_cons_succ])
    refine wpAnyD_all (rs := [14]) (by kernel_rfl) (by simp) (AllD.cons rfl (by rfl) (fun K hK => ?_) AllD.nil)
    go_simp
    refine hK.out _ _ (fun h => absurd h (by decide)) ?_
    clear hK K
    (try simp only [List.getElem_toArray, List.getElem_cons_zero, List.getElem_cons_succ, Act.put, List.setIfInBounds_toArray, List.set_cons_zero, List.set_cons_succ])
    have hbx0 := box_set (j := 4) hbx0 (.slice AK t.kids.length cK)
    have hrx0 := box_far (p := ⟨w.heap.size, 4, none⟩) hrx0 (by simp only; omega) (.slice AK t.kids.length cK)
    have HX := Lib.hid (Below.setCell (p := ⟨w.heap.size, 4, none⟩) HX.out (by simp only; omega) (.slice AK t.kids.length cK))
    have HSH := Lib.hid (Rep.sl_setFar (g := w.heap.size) (j := 4) (u := (.slice AK t.kids.length cK)) HSH.out (fun b hb => by omega))
    have HSD := Lib.hid (Rep.sl_setFar (g := w.heap.size) (j := 4) (u := (.slice AK t.kids.length cK)) HSD.out (fun b hb => by omega))
    have HOK := Lib.hid (ownT_far (p := ⟨w.heap.size, 4, none⟩) HOK.out (by simp only; omega) (by simp only; omega) (by (try simp only [World.size_setCell]); omega) (.slice AK t.kids.length cK))
    refine wpAnyD_done (by kernel_rfl) ?_ _
    exact ⟨rfl, _, _, _, _, _, _, _, hm2, by simpa only [World.size_setCell] using hm1, rfl, hbx0, hrx0, HSH.out, HSD.out, HOK.out, HX.out⟩
  rintro e a' w5 ⟨rfl, m, AH, cH, AD, cD, AK, cK, hm1, hm2, rfl, hbx, hrx, hoh, hod, hok, hB⟩
  have HRB := Lib.hid (RowB.of_own hok)
  have HOH := Lib.hid hoh
  have HOD := Lib.hid hod
  have HBX := Lib.hid hB
  clear hok hoh hod hB hbx0 hrx0 hlb hlr hS HX HP1 HP2 HK
  dsimp only
  have hc0 := (boxed hbx) 0 _ rfl; have hc1 := (boxed hbx) 1 _ rfl; have hc2 := (boxed hbx) 2 _ rfl; have hc3 := (boxed hbx) 3 _ rfl; have hc4 := (boxed hbx) 4 _ rfl
  go_wp2
  go_loopw [20] (fun ix wr => ∃ (k : Nat), k ≤ t.kids.length ∧ ix = .int .i64 (k : Nat) ∧ wr.heap[w.heap.size]? = some (.cells #[.bool t.list, .bool t.hinted, .slice AH t.hint.length cH, .slice AD t.data.length cD, .slice AK t.kids.length cK] 25 (0, 0)) ∧
    wr.heap[w.heap.size + 1]? = some (.cells #[.bool false, .bool false, .slice none 0 0, .slice none 0 0, .slice none 0 0] 25 (0, 0)) ∧
    Hid (m ≤ wr.heap.size) ∧ Hid (Rep.u8.sl wr (fun b => w.heap.size + 2 ≤ b ∧ b < m) AH t.hint.length cH t.hint) ∧ Hid (Rep.u8.sl wr (fun b => w.heap.size + 2 ≤ b ∧ b < m) AD t.data.length cD t.data) ∧ Hid (RowB w wr m (.slice AK t.kids.length cK) t.kids k) ∧ Hid (Below w.heap.size w wr)) (fun ix _ => t.kids.length - (intOf ix).toNat)
  case atStart => exact ⟨0, by omega, rfl, hbx, hrx, hm2, HOH.out, HOD.out, HRB.out, HBX.out⟩
  case round =>
    obtain ⟨k, hk, rfl, hbx, hrx, HMR, HOH, HOD, HRB, HB⟩ := hrel
    clear hc0 hc1 hc2 hc3 hc4
    by_cases hlt : k < t.kids.length
    · have HX := Lib.hid (List.getElem?_eq_getElem hlt)
      generalize t.kids[k] = x at *
      have hmem := List.mem_of_getElem? HX.out
      have hxw : x.wt ≤ 100000000 := by have := Tree.wt_kid hmem; have := HW.out; omega
      rcases HRB.out with ⟨_, h0⟩ | ⟨g, cap, cur, e, hb, hg, h1, h2, h3, h4⟩
      · rw [h0] at hlt
        simp at hlt
      injection e with eA _ ec
      subst eA ec
      have hrd : Rep.tree.rd wr (fun b => b < wr.heap.size) _ x := Rep.tree.more (h4 k x HX.out) fun b hb => by
        rw [if_neg (by omega)] at hb
        have := HB.out.size
        omega
      obtain ⟨E1, i1, j1, E2, i2, j2, E3, i3, j3, he, hp⟩ := Rep.tree_open hrd
      rw [he] at hrd
      have HSG := Lib.hid (seg_at he)
      obtain ⟨s0, s1, s2, s3, s4⟩ := seg_at he
      have k0 := boxed hg (k * 5) _ s0
      have k1 := boxed hg (k * 5 + 1) _ s1
      have k2 := boxed hg (k * 5 + 2) _ s2
      have k3 := boxed hg (k * 5 + 3) _ s3
      have k4 := boxed hg (k * 5 + 4) _ s4
      have HRD := Lib.hid hrd
      have HG := Lib.hid hg
      have HH3 := Lib.hid h3
      clear hrd he hp s0 s1 s2 s3 s4 h4 hg h3
      have b4 : wr.cell? ⟨w.heap.size, 4, none⟩ = some (.slice (some ⟨g, 0, none⟩) t.kids.length cK) := boxed hbx 4 _ rfl
      have hk0 : (0 : Int) ≤ (k : Int) := by omega
      have hk1 : (k : Int) < (t.kids.length : Int) := by omega
      have hgw : g ≠ w.heap.size := by omega
      have hgl : g < wr.heap.size := (Array.getElem?_eq_some_iff.1 HG.out).1
      have hbx6 := box_drew (box_alloc hbx (.cells #[.bool x.list, .bool x.hinted, .slice E1 i1 j1, .slice E2 i2 j2, .slice E3 i3 j3] 25))
      have hky6 := box_drew (box_new wr #[.bool x.list, .bool x.hinted, .slice E1 i1 j1, .slice E2 i2 j2, .slice E3 i3 j3] 25)
      have hS := And.intro hbx6 hky6
      have HBA : Hid (Below wr.heap.size wr (wr.alloc (.cells #[.bool x.list, .bool x.hinted, .slice E1 i1 j1, .slice E2 i2 j2, .slice E3 i3 j3] 25)).drew) := (Below.alloc (Below.refl _ wr) (Nat.le_refl _) _).drew
      have HZ : Hid (wr.heap.size < (wr.alloc (.cells #[.bool x.list, .bool x.hinted, .slice E1 i1 j1, .slice E2 i2 j2, .slice E3 i3 j3] 25)).drew.heap.size) := (Array.getElem?_eq_some_iff.1 hky6).1
      have HRD6 := Lib.hid (rd_later HRD.out HBA.out)
      go_wp2_with fail
      refine wp_region_D (fun w' => w'.heap[w.heap.size]? = some (.cells #[.bool t.list, .bool t.hinted, .slice AH t.hint.length cH, .slice AD t.data.length cD, .slice (some ⟨g, 0, none⟩) t.kids.length cK] 25 (0, 0)) ∧ w'.heap[wr.heap.size]? = some (.cells #[.bool x.list, .bool x.hinted, .slice E1 i1 j1, .slice E2 i2 j2, .slice E3 i3 j3] 25 (0, 0))) [6] (by kernel_rfl) ?_
      refine wpAnyD_take (i := 0) (v := (.pointer (some ⟨w.heap.size, 4, none⟩))) rfl (by kernel_rfl) (by kernel_rfl) (by kernel_rfl) (by kernel_rfl) (fun _ _ _ h => by first | exact h | cases h.1) (by rfl) (by kernel_rfl) (Or.inl ⟨by rfl, ?_⟩) hS ?_
      · intro w' hw'
        (try dsimp only at hw')
        go_simp
      (try simp only [List.getElem_toArray, List.getElem_cons_zero, List.getElem_cons_succ, Act.put, List.setIfInBounds_toArray, List.set_cons_zero, List.set_cons_succ])
      refine wpAnyD_take (i := 1) (v := (.slice (some ⟨g, 0, none⟩) t.kids.length cK)) rfl (by kernel_rfl) (by kernel_rfl) (by kernel_rfl) (by kernel_rfl) (fun _ _ _ h => by first | exact h | cases h.1) (by rfl) (by kernel_rfl) (Or.inl ⟨by rfl, ?_⟩) hS ?_
      · intro w' hw'
        (try dsimp only at hw')
        (have c := boxed hw'.1 4 _ rfl; go_simp)
      (try simp only [List.getElem_toArray, List.getElem_cons_zero, List.getElem_cons_succ, Act.put, List.setIfInBounds_toArray, List.set_cons_zero, List.set_cons_succ])
      refine wpAnyD_take (i := 2) (v := (.int .i64 (k : Int))) rfl (by kernel_rfl) (by kernel_rfl) (by kernel_rfl) (by kernel_rfl) (fun _ _ _ h => by first | exact h | cases h.1) (by rfl) (by kernel_rfl) (Or.inl ⟨by rfl, ?_⟩) hS ?_
      · intro w' hw'
        (try dsimp only at hw')
        go_simp
      (try simp only [List.getElem_toArray, List.getElem_cons_zero, List.getElem_cons_succ, Act.put, List.setIfInBounds_toArray, List.set_cons_zero, List.set_cons_succ])
      refine wpAnyD_take (i := 3) (v := (.agg #[.bool x.list, .bool x.hinted, .slice E1 i1 j1, .slice E2 i2 j2, .slice E3 i3 j3])) rfl (by kernel_rfl) (by kernel_rfl) (by kernel_rfl) (by kernel_rfl) (fun _ _ _ h => by first | exact h | cases h.1) (by rfl) (by kernel_rfl) (Or.inl ⟨by rfl, ?_⟩) hS ?_
      · intro w' hw'
        (try dsimp only at hw')
        (have c0 := boxed hw'.2 0 _ rfl; have c1 := boxed hw'.2 1 _ rfl; have c2 := boxed hw'.2 2 _ rfl; have c3 := boxed hw'.2 3 _ rfl; have c4 := boxed hw'.2 4 _ rfl; go_simp)
      (try simp only [List.getElem_toArray, List.getElem_cons_zero, List.getElem_cons_succ, Act.put, List.setIfInBounds_toArray, List.set_cons_zero, List.set_cons_succ])
      refine wpAnyD_all (rs := [4]) (by kernel_rfl) (by simp) (AllD.cons rfl (by rfl) (fun K hK => ?_) AllD.nil)
      go_simp
      refine Calls.mono (IH.out x hmem _ _ HRD6.out hxw) ?_
      rintro e w6 ⟨F1, a1, d1, F2, a2, d2, F3, a3, d3, rfl, hpp, hB6⟩
      have HPP := Lib.hid hpp
      have hS := And.intro (box_below hbx6 hB6 (Nat.lt_of_lt_of_le (Array.getElem?_eq_some_iff.1 hbx).1 (Nat.le_of_lt HZ.out))) (box_below hky6 hB6 HZ.out)
      dsimp only
      refine hK.out _ _ (fun _ => hS) ?_
      clear hK K
      (try simp only [List.getElem_toArray, List.getElem_cons_zero, List.getElem_cons_succ, Act.put, List.setIfInBounds_toArray, List.set_cons_zero, List.set_cons_succ])
      refine wpAnyD_take (i := 5) (v := (.pointer (some ⟨g, k * 5, none⟩))) rfl (by kernel_rfl) (by kernel_rfl) (by kernel_rfl) (by kernel_rfl) (fun _ _ _ h => by first | exact h | cases h.1) (by rfl) (by kernel_rfl) (Or.inl ⟨by rfl, ?_⟩) hS ?_
      · intro w' hw'
        (try dsimp only at hw')
        go_simp
      (try simp only [List.getElem_toArray, List.getElem_cons_zero, List.getElem_cons_succ, Act.put, List.setIfInBounds_toArray, List.set_cons_zero, List.set_cons_succ])
      have hg6 := box_below (box_below HG.out HBA.out hgl) hB6 (Nat.lt_trans hgl HZ.out)
      have q0 := boxed hg6 (k * 5) _ HSG.out.1
      have q1 := boxed hg6 (k * 5 + 1) _ HSG.out.2.1
      have q2 := boxed hg6 (k * 5 + 2) _ HSG.out.2.2.1
      have q3 := boxed hg6 (k * 5 + 3) _ HSG.out.2.2.2.1
      have q4 := boxed hg6 (k * 5 + 4) _ HSG.out.2.2.2.2
      have r0 := boxed_frozen hg6 (k * 5)
      have r1 := boxed_frozen hg6 (k * 5 + 1)
      have r2 := boxed_frozen hg6 (k * 5 + 2)
      have r3 := boxed_frozen hg6 (k * 5 + 3)
      have r4 := boxed_frozen hg6 (k * 5 + 4)
      clear k0 k1 k2 k3 k4 hbx
      refine wpAnyD_all (rs := [6]) (by kernel_rfl) (by simp) (AllD.cons rfl (by rfl) (fun K hK => ?_) AllD.nil)
      go_simp
      have hgr := put5_grown w6 g (k * 5) (.bool x.list) (.bool x.hinted) (.slice F1 a1 d1) (.slice F2 a2 d2) (.slice F3 a3 d3)
      have hbb := hB6.size
      have hB7 := (below_then HBA.out hB6)
      have HB7 := Lib.hid (below_then HB.out hB7)
      have HRB7 := Lib.hid ((HRB.out.later hB7 HB.out.size).put HX.out ⟨Rep.sl_more HPP.out.1 (fun b hb => ?_), Rep.sl_more HPP.out.2.1 (fun b hb => ?_), Rep.sl_more HPP.out.2.2 (fun b hb => ?_)⟩ (by omega))
      case refine_1 => exact ⟨by have := HZ.out; omega, hb.2, by have := HZ.out; omega⟩
      case refine_2 => exact ⟨by have := HZ.out; omega, hb.2, by have := HZ.out; omega⟩
      case refine_3 => exact ⟨by have := HZ.out; omega, hb.2, by have := HZ.out; omega⟩
      have hbx8 := box_grown hS.1 hgr (by simp; omega)
      have hrx8 := box_grown (box_below hrx hB7 (Array.getElem?_eq_some_iff.1 hrx).1) hgr (by simp; omega)
      have hmr := HMR.out
      have hz6 := hB7.size
      have HOH8 := Lib.hid (Rep.sl_grown (Rep.sl_below HOH.out hB7 fun b hb => by omega) hgr fun b hb => ⟨by omega, by simp; omega⟩)
      have HOD8 := Lib.hid (Rep.sl_grown (Rep.sl_below HOD.out hB7 fun b hb => by omega) hgr fun b hb => ⟨by omega, by simp; omega⟩)
      have HB8 := Lib.hid (HB7.out.grown hgr (by omega) fun k hk => by injection hk; omega)
      have HMR8 : Hid (m ≤ (put5 w6 g (k * 5) (.bool x.list) (.bool x.hinted) (.slice F1 a1 d1) (.slice F2 a2 d2) (.slice F3 a3 d3)).heap.size) := by show _ ≤ _; rw [put5_size]; omega
      refine hK.out _ _ (fun h => absurd h (by decide)) ?_
      clear hK K hS hbx6 hky6 q0 q1 q2 q3 q4 r0 r1 r2 r3 r4 hgr hB7 hB6 hpp hg6
      refine wpAnyD_done (by kernel_rfl) ?_ _
      show Exit.inBlock _ _ _ _ (put5 w6 g (k * 5) (.bool x.list) (.bool x.hinted) (.slice F1 a1 d1) (.slice F2 a2 d2) (.slice F3 a3 d3))
      generalize put5 w6 g (k * 5) (.bool x.list) (.bool x.hinted) (.slice F1 a1 d1) (.slice F2 a2 d2) (.slice F3 a3 d3) = w8 at *
      (try dsimp only)
      go_wp2
      go_roundw
      case rel => exact ⟨k + 1, by omega, by go_num, hbx8, hrx8, HMR8.out, HOH8.out, HOD8.out, HRB7.out, HB8.out⟩
      case measure => simp [intOf] <;> omega
    · obtain rfl : k = t.kids.length := by omega
      have hnl : ¬ ((t.kids.length : Int) < (t.kids.length : Int)) := by omega
      have hc0 := (boxed hbx) 0 _ rfl; have hc1 := (boxed hbx) 1 _ rfl; have hc2 := (boxed hbx) 2 _ rfl; have hc3 := (boxed hbx) 3 _ rfl; have hc4 := (boxed hbx) 4 _ rfl
      have hr0 := (boxed hrx) 0 _ rfl; have hr1 := (boxed hrx) 1 _ rfl; have hr2 := (boxed hrx) 2 _ rfl; have hr3 := (boxed hrx) 3 _ rfl; have hr4 := (boxed hrx) 4 _ rfl
      have hf0 := boxed_frozen hrx 0; have hf1 := boxed_frozen hrx 1; have hf2 := boxed_frozen hrx 2; have hf3 := boxed_frozen hrx 3; have hf4 := boxed_frozen hrx 4
      go_wp2
      have hgr := put5_grown wr (w.heap.size + 1) 0 (.bool t.list) (.bool t.hinted) (.slice AH t.hint.length cH) (.slice AD t.data.length cD) (.slice AK t.kids.length cK)
      have hmr := HMR.out
      have HF1 := Lib.hid (Rep.sl_grown HOH.out hgr fun b hb => ⟨by omega, by simp; omega⟩)
      have HF2 := Lib.hid (Rep.sl_grown HOD.out hgr fun b hb => ⟨by omega, by simp; omega⟩)
      have HF3 := Lib.hid (Rep.sl_grown HRB.out.sl hgr fun b hb => ⟨by omega, by simp; omega⟩)
      have HB9 := Lib.hid (HB.out.grown hgr (by omega) fun k hk => by injection hk; omega)
      have hz9 := hgr.size
      clear hgr
      refine bodyPost_ret (v := .agg #[.bool t.list, .bool t.hinted, .slice AH t.hint.length cH, .slice AD t.data.length cD, .slice AK t.kids.length cK]) (by simp [results, Tryd.results38, go_sem, hr0, hr1, hr2, hr3, hr4]) rfl ?_
      exact ⟨_, _, _, _, _, _, _, _, _, rfl, ⟨Rep.sl_more HF1.out fun b hb => ⟨by omega, Nat.lt_of_lt_of_le (Nat.lt_of_lt_of_le hb.2 hmr) hz9⟩, Rep.sl_more HF2.out fun b hb => ⟨by omega, Nat.lt_of_lt_of_le (Nat.lt_of_lt_of_le hb.2 hmr) hz9⟩, Rep.sl_more HF3.out fun b hb => ⟨by omega, Nat.lt_of_lt_of_le hb.2 hz9⟩⟩, HB9.out⟩
end Go.Proofs.YtdakeodebgggfaaDoor
