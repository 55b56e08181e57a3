/- Principals: may one be; its value, in the program and in the reference. -/
import Derived.Test.YtdakeodebgggfaaDoorUa
namespace Go.Proofs.YtdakeodebgggfaaDoor
open Go.RowKit
set_option linter.unusedVariables false
set_option linter.unusedSimpArgs false

def keyMay (s : Bool) (d : List UInt8) : Bool := if s then d.length == 64 else d.length == 32
def tHash : List UInt8 := [104, 97, 115, 104]
def tSha : List UInt8 := [115, 104, 97, 53, 49, 50]
def tPub : List UInt8 := [112, 117, 98, 108, 105, 99, 45, 107, 101, 121]
def tEd : List UInt8 := [101, 100, 50, 53, 53, 49, 57]
def keyV (s : Bool) (d : List UInt8) : Tree := if s then listT [atomT tHash, atomT tSha, atomT d] else listT [atomT tPub, listT [atomT tEd, atomT d]]

set_option maxHeartbeats 1000000 in
set_option maxRecDepth 100000 in
theorem keymay_c (s : Bool) (d : List UInt8) (A : Option Addr) (n c : Nat) (w : World) (hn : d.length = n) : Calls Tryd.prog 17 #[.agg #[.bool s, .slice A n c]] w (Tells w (.bool (keyMay s d))) := by
  have HB0 := Lib.hid (Below.alloc (Below.refl _ w) (Nat.le_refl _) (.cells #[.bool s, .slice A n c] 38))
  have HK : Hid (keyMay s d = if s then n == 64 else n == 32) := by show _ = _; rw [keyMay, hn]
  have h1 : ((n : Int) == 64) = (n == 64) := by rw [Bool.eq_iff_iff, beq_iff_eq, beq_iff_eq]; omega
  have h2 : ((n : Int) == 32) = (n == 32) := by rw [Bool.eq_iff_iff, beq_iff_eq, beq_iff_eq]; omega
  clear hn
  go_enter Tryd.func17, Tryd.ntmps17
  cases s
  · go_wp2
    go_ret
    exact ⟨ret_bool (by rw [HK.out, ← h2]; rfl), HB0.out⟩
  · go_wp2
    go_ret
    exact ⟨ret_bool (by rw [HK.out, ← h1]; rfl), HB0.out⟩
set_option maxHeartbeats 1000000 in
set_option maxRecDepth 100000 in
theorem refkmay_c (s : Bool) (d : List UInt8) (A : Option Addr) (n c : Nat) (w : World) (hn : d.length = n) : Calls Tryd.prog 16 #[.agg #[.bool s, .slice A n c]] w (Tells w (.bool (keyMay s d))) := by
  have HB0 := Lib.hid (Below.alloc (Below.refl _ w) (Nat.le_refl _) (.cells #[.bool s, .slice A n c] 38))
  have HK : Hid (keyMay s d = if s then n == 64 else n == 32) := by show _ = _; rw [keyMay, hn]
  have h1 : ((n : Int) == 64) = (n == 64) := by rw [Bool.eq_iff_iff, beq_iff_eq, beq_iff_eq]; omega
  have h2 : ((n : Int) == 32) = (n == 32) := by rw [Bool.eq_iff_iff, beq_iff_eq, beq_iff_eq]; omega
  clear hn
  go_enter Tryd.func16, Tryd.ntmps16
  cases s
  · go_wp2
    go_ret
    exact ⟨ret_bool (by rw [HK.out, ← h2]; rfl), HB0.out⟩
  · by_cases h : n = 64
    · subst h
      go_wp2
      go_ret
      exact ⟨ret_bool (by rw [HK.out]; rfl), HB0.out⟩
    · have e1 : (n == 64) = false := by rw [beq_eq_false_iff_ne]; exact h
      go_wp2
      go_ret
      exact ⟨ret_bool (by rw [HK.out, e1]; rfl), HB0.out⟩

theorem sl_trees2 {w : World} {S : Nat → Prop} {g : Nat} {t u : Tree} {T : TypeId} {A1 A2 A3 B1 B2 B3 : Option Addr} {n1 c1 n2 c2 n3 c3 m1 d1 m2 d2 m3 d3 : Nat}
    (h : w.heap[g]? = some (.cells #[.bool t.list, .bool t.hinted, .slice A1 n1 c1, .slice A2 n2 c2, .slice A3 n3 c3, .bool u.list, .bool u.hinted, .slice B1 m1 d1, .slice B2 m2 d2, .slice B3 m3 d3] T (0, 0))) (hg : S g)
    (ht : Parts w S t A1 n1 c1 A2 n2 c2 A3 n3 c3) (hu : Parts w S u B1 m1 d1 B2 m2 d2 B3 m3 d3) : Rep.tree.sl w S (some ⟨g, 0, none⟩) 2 2 [t, u] :=
  sl_box h hg rfl (Nat.le_refl _) (by decide) (rd_cons (Rep.tree_mk ht) (rd_one (Rep.tree_mk hu)))
theorem sl_trees3 {w : World} {S : Nat → Prop} {g : Nat} {t u v : Tree} {T : TypeId} {A1 A2 A3 B1 B2 B3 C1 C2 C3 : Option Addr} {n1 c1 n2 c2 n3 c3 m1 d1 m2 d2 m3 d3 p1 q1 p2 q2 p3 q3 : Nat}
    (h : w.heap[g]? = some (.cells #[.bool t.list, .bool t.hinted, .slice A1 n1 c1, .slice A2 n2 c2, .slice A3 n3 c3, .bool u.list, .bool u.hinted, .slice B1 m1 d1, .slice B2 m2 d2, .slice B3 m3 d3, .bool v.list, .bool v.hinted, .slice C1 p1 q1, .slice C2 p2 q2, .slice C3 p3 q3] T (0, 0))) (hg : S g)
    (ht : Parts w S t A1 n1 c1 A2 n2 c2 A3 n3 c3) (hu : Parts w S u B1 m1 d1 B2 m2 d2 B3 m3 d3) (hv : Parts w S v C1 p1 q1 C2 p2 q2 C3 p3 q3) : Rep.tree.sl w S (some ⟨g, 0, none⟩) 3 3 [t, u, v] :=
  sl_box h hg rfl (Nat.le_refl _) (by decide) (rd_cons (Rep.tree_mk ht) (rd_cons (Rep.tree_mk hu) (rd_one (Rep.tree_mk hv))))
theorem sl_trees4 {w : World} {S : Nat → Prop} {g : Nat} {t u v x : Tree} {T : TypeId} {A1 A2 A3 B1 B2 B3 C1 C2 C3 D1 D2 D3 : Option Addr} {n1 c1 n2 c2 n3 c3 m1 d1 m2 d2 m3 d3 p1 q1 p2 q2 p3 q3 r1 s1 r2 s2 r3 s3 : Nat}
    (h : w.heap[g]? = some (.cells #[.bool t.list, .bool t.hinted, .slice A1 n1 c1, .slice A2 n2 c2, .slice A3 n3 c3, .bool u.list, .bool u.hinted, .slice B1 m1 d1, .slice B2 m2 d2, .slice B3 m3 d3, .bool v.list, .bool v.hinted, .slice C1 p1 q1, .slice C2 p2 q2, .slice C3 p3 q3, .bool x.list, .bool x.hinted, .slice D1 r1 s1, .slice D2 r2 s2, .slice D3 r3 s3] T (0, 0))) (hg : S g)
    (ht : Parts w S t A1 n1 c1 A2 n2 c2 A3 n3 c3) (hu : Parts w S u B1 m1 d1 B2 m2 d2 B3 m3 d3) (hv : Parts w S v C1 p1 q1 C2 p2 q2 C3 p3 q3) (hx : Parts w S x D1 r1 s1 D2 r2 s2 D3 r3 s3) : Rep.tree.sl w S (some ⟨g, 0, none⟩) 4 4 [t, u, v, x] :=
  sl_box h hg rfl (Nat.le_refl _) (by decide) (rd_cons (Rep.tree_mk ht) (rd_cons (Rep.tree_mk hu) (rd_cons (Rep.tree_mk hv) (rd_one (Rep.tree_mk hx)))))
end Go.Proofs.YtdakeodebgggfaaDoor
