/- Atoms and lists, in the program and in the reference. -/
import Derived.Test.YtdakeodebgggfaaDoorTo
namespace Go.Proofs.YtdakeodebgggfaaDoor
open Go.RowKit
set_option linter.unusedVariables false
set_option linter.unusedSimpArgs false

def atomT (s : List UInt8) : Tree := .mk false false [] s []
def listT (l : List Tree) : Tree := .mk true false [] [] l
/-- A value's five cells, as one. -/
def treeV (t : Tree) (A1 : Option Addr) (n1 c1 : Nat) (A2 : Option Addr) (n2 c2 : Nat) (A3 : Option Addr) (n3 c3 : Nat) : Value := .agg #[.bool t.list, .bool t.hinted, .slice A1 n1 c1, .slice A2 n2 c2, .slice A3 n3 c3]
def TreePost (w : World) (base : Nat) (t : Tree) (e : Ending) (w' : World) : Prop := ∃ A1 n1 c1 A2 n2 c2 A3 n3 c3, e = .returned (treeV t A1 n1 c1 A2 n2 c2 A3 n3 c3) ∧ Parts w' (fun b => base ≤ b ∧ b < w'.heap.size) t A1 n1 c1 A2 n2 c2 A3 n3 c3 ∧ Below w.heap.size w w'
def TreeE (w : World) (base : Nat) (t : Tree) (k : Int) (e : Ending) (w' : World) : Prop := ∃ A1 n1 c1 A2 n2 c2 A3 n3 c3, e = .returned (.tuple #[treeV t A1 n1 c1 A2 n2 c2 A3 n3 c3, .int .i64 k]) ∧ Parts w' (fun b => base ≤ b ∧ b < w'.heap.size) t A1 n1 c1 A2 n2 c2 A3 n3 c3 ∧ Below w.heap.size w w'
theorem Parts.more {w : World} {S S' : Nat → Prop} {t : Tree} {A1 A2 A3 : Option Addr} {n1 c1 n2 c2 n3 c3 : Nat} (h : Parts w S t A1 n1 c1 A2 n2 c2 A3 n3 c3) (hS : ∀ b, S b → S' b) : Parts w S' t A1 n1 c1 A2 n2 c2 A3 n3 c3 :=
  ⟨Rep.sl_more h.1 hS, Rep.sl_more h.2.1 hS, Rep.sl_more h.2.2 hS⟩
theorem Parts.later {w w1 : World} {t : Tree} {A1 A2 A3 : Option Addr} {n1 c1 n2 c2 n3 c3 : Nat} (h : Parts w (fun b => b < w.heap.size) t A1 n1 c1 A2 n2 c2 A3 n3 c3) (hB : Below w.heap.size w w1) : Parts w1 (fun b => b < w1.heap.size) t A1 n1 c1 A2 n2 c2 A3 n3 c3 :=
  ⟨sl_later h.1 hB, sl_later h.2.1 hB, sl_later h.2.2 hB⟩
theorem Parts.next {w w1 : World} {base : Nat} {t : Tree} {A1 A2 A3 : Option Addr} {n1 c1 n2 c2 n3 c3 : Nat} (h : Parts w (fun b => base ≤ b ∧ b < w.heap.size) t A1 n1 c1 A2 n2 c2 A3 n3 c3) (hB : Below w.heap.size w w1) : Parts w1 (fun b => base ≤ b ∧ b < w1.heap.size) t A1 n1 c1 A2 n2 c2 A3 n3 c3 :=
  ⟨Rep.sl_more (Rep.sl_below h.1 hB fun _ h => h.2) fun b hb => ⟨hb.1, Nat.lt_of_lt_of_le hb.2 hB.size⟩, Rep.sl_more (Rep.sl_below h.2.1 hB fun _ h => h.2) fun b hb => ⟨hb.1, Nat.lt_of_lt_of_le hb.2 hB.size⟩,
    Rep.sl_more (Rep.sl_below h.2.2 hB fun _ h => h.2) fun b hb => ⟨hb.1, Nat.lt_of_lt_of_le hb.2 hB.size⟩⟩
theorem Parts.grown {w w1 : World} {S : Nat → Prop} {row : Option Nat} {t : Tree} {A1 A2 A3 : Option Addr} {n1 c1 n2 c2 n3 c3 : Nat} (h : Parts w S t A1 n1 c1 A2 n2 c2 A3 n3 c3) (hg : w.grownBy w1 row) (hS : ∀ b, S b → b < w.heap.size ∧ some b ≠ row) : Parts w1 S t A1 n1 c1 A2 n2 c2 A3 n3 c3 :=
  ⟨Rep.sl_grown h.1 hg hS, Rep.sl_grown h.2.1 hg hS, Rep.sl_grown h.2.2 hg hS⟩
theorem tree_ret {P : Program} {fn : Func} {a : Act} {w w' : World} {S : Nat → Prop} {base : Nat} {t : Tree} {A1 A2 A3 : Option Addr} {n1 c1 n2 c2 n3 c3 : Nat} (hr : (results fn a.tmps).run P w' = .ok (treeV t A1 n1 c1 A2 n2 c2 A3 n3 c3) w') (hd : a.defers = [])
    (hp : Parts w' S t A1 n1 c1 A2 n2 c2 A3 n3 c3) (hS : ∀ b, S b → base ≤ b ∧ b < w'.heap.size) (hB : Below w.heap.size w w') : bodyPost P fn (TreePost w base t) .ret a w' :=
  bodyPost_ret hr hd ⟨_, _, _, _, _, _, _, _, _, rfl, hp.more hS, hB⟩
theorem treeE_ret {P : Program} {fn : Func} {a : Act} {w w' : World} {S : Nat → Prop} {base : Nat} {t : Tree} {k : Int} {A1 A2 A3 : Option Addr} {n1 c1 n2 c2 n3 c3 : Nat} (hr : (results fn a.tmps).run P w' = .ok (.tuple #[treeV t A1 n1 c1 A2 n2 c2 A3 n3 c3, .int .i64 k]) w') (hd : a.defers = [])
    (hp : Parts w' S t A1 n1 c1 A2 n2 c2 A3 n3 c3) (hS : ∀ b, S b → base ≤ b ∧ b < w'.heap.size) (hB : Below w.heap.size w w') : bodyPost P fn (TreeE w base t k) .ret a w' :=
  bodyPost_ret hr hd ⟨_, _, _, _, _, _, _, _, _, rfl, hp.more hS, hB⟩
/-- A value is put where the result stands, and returned. -/
theorem tree_ret2 {P : Program} {fn : Func} {a : Act} {w w2 : World} {S : Nat → Prop} {base : Nat} {t : Tree} {g : Nat} {A1 A2 A3 : Option Addr} {n1 c1 n2 c2 n3 c3 : Nat}
    (hr : (results fn a.tmps).run P (put5 w2 g 0 (.bool t.list) (.bool t.hinted) (.slice A1 n1 c1) (.slice A2 n2 c2) (.slice A3 n3 c3)) = .ok (treeV t A1 n1 c1 A2 n2 c2 A3 n3 c3) (put5 w2 g 0 (.bool t.list) (.bool t.hinted) (.slice A1 n1 c1) (.slice A2 n2 c2) (.slice A3 n3 c3))) (hd : a.defers = [])
    (hp : Parts w2 S t A1 n1 c1 A2 n2 c2 A3 n3 c3) (hS : ∀ b, S b → base ≤ b ∧ b < w2.heap.size ∧ b ≠ g) (hB : Below w.heap.size w w2) (hg : w.heap.size ≤ g) (hg2 : g < w2.heap.size) :
    bodyPost P fn (TreePost w base t) .ret a (put5 w2 g 0 (.bool t.list) (.bool t.hinted) (.slice A1 n1 c1) (.slice A2 n2 c2) (.slice A3 n3 c3)) :=
  tree_ret hr hd (hp.grown (put5_grown ..) fun b hb => ⟨(hS b hb).2.1, by have := (hS b hb).2.2; simpa using this⟩) (fun b hb => by rw [put5_size]; exact ⟨(hS b hb).1, (hS b hb).2.1⟩) (hB.grown (put5_grown ..) hB.size fun k hk => by injection hk; omega)
theorem treeE_ret2 {P : Program} {fn : Func} {a : Act} {w w2 : World} {S : Nat → Prop} {base : Nat} {t : Tree} {g : Nat} {k : Int} {A1 A2 A3 : Option Addr} {n1 c1 n2 c2 n3 c3 : Nat}
    (hr : (results fn a.tmps).run P (put5 w2 g 0 (.bool t.list) (.bool t.hinted) (.slice A1 n1 c1) (.slice A2 n2 c2) (.slice A3 n3 c3)) = .ok (.tuple #[treeV t A1 n1 c1 A2 n2 c2 A3 n3 c3, .int .i64 k]) (put5 w2 g 0 (.bool t.list) (.bool t.hinted) (.slice A1 n1 c1) (.slice A2 n2 c2) (.slice A3 n3 c3))) (hd : a.defers = [])
    (hp : Parts w2 S t A1 n1 c1 A2 n2 c2 A3 n3 c3) (hS : ∀ b, S b → base ≤ b ∧ b < w2.heap.size ∧ b ≠ g) (hB : Below w.heap.size w w2) (hg : w.heap.size ≤ g) (hg2 : g < w2.heap.size) :
    bodyPost P fn (TreeE w base t k) .ret a (put5 w2 g 0 (.bool t.list) (.bool t.hinted) (.slice A1 n1 c1) (.slice A2 n2 c2) (.slice A3 n3 c3)) :=
  treeE_ret hr hd (hp.grown (put5_grown ..) fun b hb => ⟨(hS b hb).2.1, by have := (hS b hb).2.2; simpa using this⟩) (fun b hb => by rw [put5_size]; exact ⟨(hS b hb).1, (hS b hb).2.1⟩) (hB.grown (put5_grown ..) hB.size fun k hk => by injection hk; omega)

set_option maxHeartbeats 1000000 in
set_option maxRecDepth 100000 in
theorem atomsx_c (s : List UInt8) (w : World) (base : Nat) (hb : base ≤ w.heap.size) (hs : s.length ≤ 1000000000) : Calls Tryd.prog 43 #[.string ⟨s.toArray⟩] w (TreePost w base (atomT s)) := by
  have hrx0 := box_new w #[.bool false, .bool false, .slice none 0 0, .slice none 0 0, .slice none 0 0] 25
  obtain ⟨v2, w2, hcv, ho2, hB2⟩ := conv_own (P := Tryd.prog) Tryd.underlying9 Tryd.underlying22 Tryd.underlying5 (w.alloc (.cells #[.bool false, .bool false, .slice none 0 0, .slice none 0 0, .slice none 0 0] 25)) s (by omega)
  obtain ⟨A, c, rfl, hsl⟩ := ho2.sl_all
  have HO := Lib.hid ho2.sl_in
  have HB := Lib.hid (below_then (Below.alloc (Below.refl _ w) (Nat.le_refl _) (.cells #[.bool false, .bool false, .slice none 0 0, .slice none 0 0, .slice none 0 0] 25)) hB2)
  have hrx := box_below hrx0 hB2 (by simp)
  have HZ : Hid (w.heap.size + 1 ≤ w2.heap.size) := by
    show _ ≤ _
    have := hB2.size
    simpa only [World.size_alloc] using this
  clear hsl ho2 hB2 hrx0
  have hr0 := (boxed hrx) 0 _ rfl; have hr1 := (boxed hrx) 1 _ rfl; have hr2 := (boxed hrx) 2 _ rfl; have hr3 := (boxed hrx) 3 _ rfl; have hr4 := (boxed hrx) 4 _ rfl
  have hf0 := boxed_frozen hrx 0; have hf1 := boxed_frozen hrx 1; have hf2 := boxed_frozen hrx 2; have hf3 := boxed_frozen hrx 3; have hf4 := boxed_frozen hrx 4
  go_enter Tryd.func43, Tryd.ntmps43
  go_wp2
  exact tree_ret2 (t := atomT s) (w2 := w2) (g := w.heap.size) (by simp [results, Tryd.results43, go_sem, treeV, atomT, listT, Tree.list, Tree.hinted, put5, hr0, hr1, hr2, hr3, hr4]) rfl ⟨Rep.sl_nil, HO.out, Rep.sl_nil⟩ (fun b hb => by simp only [World.size_alloc] at hb; omega) HB.out (Nat.le_refl _) (by have := HZ.out; omega)
set_option maxHeartbeats 1000000 in
set_option maxRecDepth 100000 in
theorem atomref_c (s : List UInt8) (w : World) (base : Nat) (hb : base ≤ w.heap.size) (hs : s.length ≤ 1000000000) : Calls Tryd.prog 35 #[.string ⟨s.toArray⟩] w (TreePost w base (atomT s)) := by
  have hrx0 := box_new w #[.bool false, .bool false, .slice none 0 0, .slice none 0 0, .slice none 0 0] 25
  obtain ⟨v2, w2, hcv, ho2, hB2⟩ := conv_own (P := Tryd.prog) Tryd.underlying9 Tryd.underlying22 Tryd.underlying5 (w.alloc (.cells #[.bool false, .bool false, .slice none 0 0, .slice none 0 0, .slice none 0 0] 25)) s (by omega)
  obtain ⟨A, c, rfl, hsl⟩ := ho2.sl_all
  have HO := Lib.hid ho2.sl_in
  have HB := Lib.hid (below_then (Below.alloc (Below.refl _ w) (Nat.le_refl _) (.cells #[.bool false, .bool false, .slice none 0 0, .slice none 0 0, .slice none 0 0] 25)) hB2)
  have hrx := box_below hrx0 hB2 (by simp)
  have HZ : Hid (w.heap.size + 1 ≤ w2.heap.size) := by
    show _ ≤ _
    have := hB2.size
    simpa only [World.size_alloc] using this
  clear hsl ho2 hB2 hrx0
  have hr0 := (boxed hrx) 0 _ rfl; have hr1 := (boxed hrx) 1 _ rfl; have hr2 := (boxed hrx) 2 _ rfl; have hr3 := (boxed hrx) 3 _ rfl; have hr4 := (boxed hrx) 4 _ rfl
  have hf0 := boxed_frozen hrx 0; have hf1 := boxed_frozen hrx 1; have hf2 := boxed_frozen hrx 2; have hf3 := boxed_frozen hrx 3; have hf4 := boxed_frozen hrx 4
  go_enter Tryd.func35, Tryd.ntmps35
  go_wp2
  exact tree_ret2 (t := atomT s) (w2 := w2) (g := w.heap.size) (by simp [results, Tryd.results35, go_sem, treeV, atomT, listT, Tree.list, Tree.hinted, put5, hr0, hr1, hr2, hr3, hr4]) rfl ⟨Rep.sl_nil, HO.out, Rep.sl_nil⟩ (fun b hb => by simp only [World.size_alloc] at hb; omega) HB.out (Nat.le_refl _) (by have := HZ.out; omega)

set_option maxHeartbeats 1000000 in
set_option maxRecDepth 100000 in
theorem listsx_c (l : List Tree) (A : Option Addr) (n c : Nat) (w : World) (base : Nat) (hb : base ≤ w.heap.size) (hs : Rep.tree.sl w (fun b => base ≤ b ∧ b < w.heap.size) A n c l) (hn : n ≤ 1000000000) : Calls Tryd.prog 42 #[.slice A n c] w (TreePost w base (listT l)) := by
  have hrx0 := box_new w #[.bool false, .bool false, .slice none 0 0, .slice none 0 0, .slice none 0 0] 25
  have HB0 := Lib.hid (Below.alloc (Below.refl _ w) (Nat.le_refl _) (.cells #[.bool false, .bool false, .slice none 0 0, .slice none 0 0, .slice none 0 0] 25))
  have HS := Lib.hid (Rep.sl_below hs HB0.out fun _ h => h.2)
  clear hs
  go_enter Tryd.func42, Tryd.ntmps42
  go_wp2_with fail
  refine Calls.mono (sclone_c l A n c _ (fun b => base ≤ b ∧ b < w.heap.size) (fun b hb => by simp only [World.size_alloc]; omega) HS.out hn) ?_
  rintro e w2 ⟨v, rfl, ho, hB⟩
  have hlt := Rep.own_lt ho
  obtain ⟨A2, c2, rfl, hsl⟩ := Rep.own_sl ho
  have hrx := box_below hrx0 hB (by simp)
  have hz := hB.size
  simp only [World.size_alloc] at hz hlt
  have HO : Hid (Rep.tree.sl w2 (fun b => base ≤ b ∧ b ≠ w.heap.size ∧ b < w2.heap.size) A2 l.length c2 l) := Rep.sl_more hsl fun b hb => by
    rcases hb with hb | hb
    · omega
    · have := hlt b hb; omega
  have HB := Lib.hid (below_then HB0.out hB)
  have HZ := Lib.hid hz
  clear hsl ho hB hrx0 hlt hz
  have hr0 := (boxed hrx) 0 _ rfl; have hr1 := (boxed hrx) 1 _ rfl; have hr2 := (boxed hrx) 2 _ rfl; have hr3 := (boxed hrx) 3 _ rfl; have hr4 := (boxed hrx) 4 _ rfl
  have hf0 := boxed_frozen hrx 0; have hf1 := boxed_frozen hrx 1; have hf2 := boxed_frozen hrx 2; have hf3 := boxed_frozen hrx 3; have hf4 := boxed_frozen hrx 4
  go_wp2
  exact tree_ret2 (t := listT l) (w2 := w2) (g := w.heap.size) (by simp [results, Tryd.results42, go_sem, treeV, atomT, listT, Tree.list, Tree.hinted, put5, hr0, hr1, hr2, hr3, hr4]) rfl ⟨Rep.sl_nil, Rep.sl_nil, HO.out⟩ (fun b hb => ⟨hb.1, hb.2.2, hb.2.1⟩) HB.out (Nat.le_refl _) (by have := HZ.out; omega)
end Go.Proofs.YtdakeodebgggfaaDoor
