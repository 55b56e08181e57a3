/- The reference's way of getting a principal. -/
import Derived.Test.YtdakeodebgggfaaDoorUe
namespace Go.Proofs.YtdakeodebgggfaaDoor
open Go.RowKit
set_option linter.unusedVariables false
set_option linter.unusedSimpArgs false

theorem kid_at' {w : World} {S : Nat → Prop} {A : Option Addr} {n c k : Nat} {t : Tree} (h : Rep.tree.sl w S A n c t.kids) (hk : k < n) :
    ∃ b o A1 n1 c1 A2 n2 c2 A3 n3 c3, A = some ⟨b, o, none⟩ ∧ S b ∧ Parts w S (t.kid k) A1 n1 c1 A2 n2 c2 A3 n3 c3 ∧
      w.cell? ⟨b, o + k * 5, none⟩ = some (.bool (t.kid k).list) ∧ w.cell? ⟨b, o + k * 5 + 1, none⟩ = some (.bool (t.kid k).hinted) ∧ w.cell? ⟨b, o + k * 5 + 2, none⟩ = some (.slice A1 n1 c1) ∧
      w.cell? ⟨b, o + k * 5 + 3, none⟩ = some (.slice A2 n2 c2) ∧ w.cell? ⟨b, o + k * 5 + 4, none⟩ = some (.slice A3 n3 c3) := by
  obtain ⟨b, o, x, es, hA, hb, hx, hr, hc⟩ := Rep.sl_at h hk
  obtain ⟨A1, n1, c1, A2, n2, c2, A3, n3, c3, rfl, hp⟩ := Rep.tree_open hr
  rw [Tree.kid_at hx]
  simp only [show Rep.tree.size = 5 from rfl] at hc
  refine ⟨b, o, A1, n1, c1, A2, n2, c2, A3, n3, c3, hA, hb, hp, ?_, hc 1 _ rfl, hc 2 _ rfl, hc 3 _ rfl, hc 4 _ rfl⟩
  have := hc 0 _ rfl
  rwa [Nat.add_zero] at this

set_option maxHeartbeats 1000000 in
set_option maxRecDepth 100000 in
theorem plain_c (t : Tree) (k : Nat) (w : World) (cs : List Value) (h : Rep.tree.rd w (fun b => b < w.heap.size) cs t) :
    Calls Tryd.prog 48 #[.agg cs.toArray, .int .i64 (k : Nat)] w (Tells w (.bool (plainB t k))) := by
  obtain ⟨A1, n1, c1, A2, n2, c2, A3, n3, c3, rfl, hp⟩ := Rep.tree_open h
  have HB0 := Lib.hid (Below.alloc (Below.refl _ w) (Nat.le_refl _) (.cells #[.bool t.list, .bool t.hinted, .slice A1 n1 c1, .slice A2 n2 c2, .slice A3 n3 c3] 25))
  have HM : Hid (plainB t k = (!t.list && !t.hinted && (n2 == k))) := by show _ = _; rw [plainB, hp.2.1.1]
  have h1 : ((n2 : Int) == (k : Int)) = (n2 == k) := by rw [Bool.eq_iff_iff, beq_iff_eq, beq_iff_eq]; omega
  clear h hp
  generalize t.list = l at *
  generalize t.hinted = hi at *
  go_enter Tryd.func48, Tryd.ntmps48
  cases l <;> cases hi
  all_goals
    go_wp2
    go_ret
    exact ⟨ret_bool (by rw [HM.out]; first | rfl | (rw [← h1]; rfl)), HB0.out⟩

def KeyOk (w : World) (base : Nat) (k : Bool × List UInt8) (ok : Bool) (e : Ending) (w' : World) : Prop :=
  ∃ A n c, e = .returned (.tuple #[.agg #[.bool k.1, .slice A n c], .bool ok]) ∧ Rep.u8.sl w' (fun b => base ≤ b ∧ b < w'.heap.size) A n c k.2 ∧ Below w.heap.size w w'
def KeyE (w : World) (base : Nat) (k : Bool × List UInt8) (ek : Int) (e : Ending) (w' : World) : Prop :=
  ∃ A n c, e = .returned (.tuple #[.agg #[.bool k.1, .slice A n c], .int .i64 ek]) ∧ Rep.u8.sl w' (fun b => base ≤ b ∧ b < w'.heap.size) A n c k.2 ∧ Below w.heap.size w w'
def keyOr (k : Option (Bool × List UInt8)) : Bool × List UInt8 := k.getD (false, [])
/-- A principal's two cells stored. -/
def put2 (w : World) (g o : Nat) (a b : Value) : World := (w.setCell ⟨g, o, none⟩ a).setCell ⟨g, o + 1, none⟩ b
theorem put2_grown (w : World) (g o : Nat) (a b : Value) : w.grownBy (put2 w g o a b) (some g) := grownBy_set (grownBy_set (World.grownBy.refl w _) a) b
theorem put2_size (w : World) (g o : Nat) (a b : Value) : (put2 w g o a b).heap.size = w.heap.size := by simp only [put2, World.size_setCell]
theorem put2_box {w : World} {g : Nat} {cur : Array Value} {t : TypeId} (h : w.heap[g]? = some (.cells cur t (0, 0))) (o : Nat) (a b : Value) : (put2 w g o a b).heap[g]? = some (.cells ((cur.setIfInBounds o a).setIfInBounds (o + 1) b) t (0, 0)) := box_set (box_set h a) b
theorem keyOk_ret {P : Program} {fn : Func} {a : Act} {w w2 : World} {base l h : Nat} {k : Bool × List UInt8} {ok : Bool} {g : Nat} {A : Option Addr} {n c : Nat}
    (hr : (results fn a.tmps).run P (put2 w2 g 0 (.bool k.1) (.slice A n c)) = .ok (.tuple #[.agg #[.bool k.1, .slice A n c], .bool ok]) (put2 w2 g 0 (.bool k.1) (.slice A n c))) (hd : a.defers = [])
    (hp : Rep.u8.slI w2 l h A n c k.2) (hl : base ≤ l) (hh : h ≤ w2.heap.size) (hn : g < l ∨ h ≤ g) (hB : Below w.heap.size w w2) (hg : w.heap.size ≤ g) (hg2 : g < w2.heap.size) :
    bodyPost P fn (KeyOk w base k ok) .ret a (put2 w2 g 0 (.bool k.1) (.slice A n c)) :=
  bodyPost_ret hr hd ⟨_, _, _, rfl, Rep.sl_more (Rep.slI.farI hp (put2_grown ..) hh hn) (fun b hb => ⟨Nat.le_trans hl hb.1, by rw [put2_size]; exact Nat.lt_of_lt_of_le hb.2 hh⟩), hB.grown (put2_grown ..) hB.size fun k hk => by injection hk; omega⟩
theorem keyE_ret {P : Program} {fn : Func} {a : Act} {w w2 : World} {base l h : Nat} {k : Bool × List UInt8} {ek : Int} {g : Nat} {A : Option Addr} {n c : Nat}
    (hr : (results fn a.tmps).run P (put2 w2 g 0 (.bool k.1) (.slice A n c)) = .ok (.tuple #[.agg #[.bool k.1, .slice A n c], .int .i64 ek]) (put2 w2 g 0 (.bool k.1) (.slice A n c))) (hd : a.defers = [])
    (hp : Rep.u8.slI w2 l h A n c k.2) (hl : base ≤ l) (hh : h ≤ w2.heap.size) (hn : g < l ∨ h ≤ g) (hB : Below w.heap.size w w2) (hg : w.heap.size ≤ g) (hg2 : g < w2.heap.size) :
    bodyPost P fn (KeyE w base k ek) .ret a (put2 w2 g 0 (.bool k.1) (.slice A n c)) :=
  bodyPost_ret hr hd ⟨_, _, _, rfl, Rep.sl_more (Rep.slI.farI hp (put2_grown ..) hh hn) (fun b hb => ⟨Nat.le_trans hl hb.1, by rw [put2_size]; exact Nat.lt_of_lt_of_le hb.2 hh⟩), hB.grown (put2_grown ..) hB.size fun k hk => by injection hk; omega⟩
end Go.Proofs.YtdakeodebgggfaaDoor
