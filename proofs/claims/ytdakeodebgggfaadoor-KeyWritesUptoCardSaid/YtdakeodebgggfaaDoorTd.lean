/- The reference's tellings of a value: how many parts. -/
import Derived.Test.YtdakeodebgggfaaDoorTc
import Derived.Test.YtdakeodebgggfaaDoorV
import Derived.Test.YtdakeodebgggfaaDoorProg
namespace Go.Proofs.YtdakeodebgggfaaDoor
open Go.RowKit
set_option linter.unusedVariables false

/-- A list's value at a place. -/
theorem kid_at {w : World} {S : Nat → Prop} {A : Option Addr} {n c k : Nat} {ks : List Tree} (h : Rep.tree.sl w S A n c ks) (hk : k < n) :
    ∃ b o x A1 n1 c1 A2 n2 c2 A3 n3 c3, A = some ⟨b, o, none⟩ ∧ S b ∧ ks[k]? = some x ∧ Rep.tree.rd w S [.bool x.list, .bool x.hinted, .slice A1 n1 c1, .slice A2 n2 c2, .slice A3 n3 c3] x ∧
      w.cell? ⟨b, o + k * 5, none⟩ = some (.bool x.list) ∧ w.cell? ⟨b, o + k * 5 + 1, none⟩ = some (.bool x.hinted) ∧ w.cell? ⟨b, o + k * 5 + 2, none⟩ = some (.slice A1 n1 c1) ∧
      w.cell? ⟨b, o + k * 5 + 3, none⟩ = some (.slice A2 n2 c2) ∧ w.cell? ⟨b, o + k * 5 + 4, none⟩ = some (.slice A3 n3 c3) := by
  obtain ⟨b, o, x, es, hA, hb, hx, hr, hc⟩ := Rep.sl_at h hk
  obtain ⟨A1, n1, c1, A2, n2, c2, A3, n3, c3, rfl, hp⟩ := Rep.tree_open hr
  simp only [show Rep.tree.size = 5 from rfl] at hc
  refine ⟨b, o, x, A1, n1, c1, A2, n2, c2, A3, n3, c3, hA, hb, hx, hr, ?_, hc 1 _ rfl, hc 2 _ rfl, hc 3 _ rfl, hc 4 _ rfl⟩
  have := hc 0 _ rfl
  rwa [Nat.add_zero] at this
/-- A value is told, and nothing that was there is changed. -/
def Tells (w : World) (v : Value) (e : Ending) (w' : World) : Prop := e = .returned v ∧ Below w.heap.size w w'
theorem rd_later {w w' : World} {cs : List Value} {x : Tree} (h : Rep.tree.rd w (fun b => b < w.heap.size) cs x) (hB : Below w.heap.size w w') : Rep.tree.rd w' (fun b => b < w'.heap.size) cs x :=
  Rep.tree.more (Rep.tree.below h hB (fun _ h => h)) (fun b hb => Nat.lt_of_lt_of_le hb hB.size)
theorem sl_later {α : Type} {r : Rep α} {w w' : World} {A : Option Addr} {n c : Nat} {x : List α} (h : r.sl w (fun b => b < w.heap.size) A n c x) (hB : Below w.heap.size w w') : r.sl w' (fun b => b < w'.heap.size) A n c x :=
  Rep.sl_more (Rep.sl_below h hB (fun _ h => h)) (fun b hb => Nat.lt_of_lt_of_le hb hB.size)
theorem below_then {w a b : World} (h1 : Below w.heap.size w a) (h2 : Below a.heap.size a b) : Below w.heap.size w b := h1.trans (h2.mono h1.size)
theorem sum_take {l : List Tree} {k : Nat} {x : Tree} (f : Tree → Nat) (h : l[k]? = some x) : ((l.take (k + 1)).map f).sum = ((l.take k).map f).sum + f x := by
  rw [List.take_add_one, h]
  simp
theorem sum_take_le {l : List Tree} {k : Nat} (f : Tree → Nat) : ((l.take k).map f).sum ≤ (l.map f).sum := by
  induction l generalizing k with
  | nil => simp
  | cons x l ih =>
    cases k with
    | zero => simp
    | succ k =>
      have := ih (k := k)
      simp only [List.take_succ_cons, List.map_cons, List.sum_cons]
      omega

set_option maxHeartbeats 1000000 in
set_option maxRecDepth 100000 in
theorem nodes_c (t : Tree) : ∀ (w : World) (cs : List Value), Rep.tree.rd w (fun b => b < w.heap.size) cs t → t.wt ≤ 1000000000 →
    Calls Tryd.prog 33 #[.agg cs.toArray] w (Tells w (.int .i64 (t.nodes : Nat))) := by
  refine Tree.ind (P := fun t => ∀ (w : World) (cs : List Value), Rep.tree.rd w (fun b => b < w.heap.size) cs t → t.wt ≤ 1000000000 → Calls Tryd.prog 33 #[.agg cs.toArray] w (Tells w (.int .i64 (t.nodes : Nat)))) (fun t ih => ?_) t
  intro w cs h hw
  obtain ⟨A1, n1, c1, A2, n2, c2, A3, n3, c3, rfl, hp⟩ := Rep.tree_open h
  have HK := Lib.hid hp.2.2
  have HN := Lib.hid hp.2.2.1
  have hnc := hp.2.2.2.1
  have hcm := hp.2.2.2.2.1
  have IH := Lib.hid ih
  have HW := Lib.hid hw
  have hnw : n3 ≤ 1000000000 := by have := t.wt_kids; have := HN.out; omega
  clear ih h hp hw
  have hbx0 := box_new w #[.bool t.list, .bool t.hinted, .slice A1 n1 c1, .slice A2 n2 c2, .slice A3 n3 c3] 25
  go_enter Tryd.func33, Tryd.ntmps33
  go_wp2
  go_loopw [3, 8] (fun sx ix wr => ∃ (k s : Nat), k ≤ n3 ∧ ix = .int .i64 (k : Nat) ∧ sx = .int .i64 (s : Nat) ∧ Hid (s = 1 + ((t.kids.take k).map Tree.nodes).sum) ∧ wr.heap[w.heap.size]? = some (.cells #[.bool t.list, .bool t.hinted, .slice A1 n1 c1, .slice A2 n2 c2, .slice A3 n3 c3] 25 (0, 0)) ∧ Below w.heap.size w wr) (fun _ ix _ => n3 - (intOf ix).toNat)
  case atStart => exact ⟨0, 1, by omega, rfl, rfl, by show _ = _; simp, hbx0, Below.alloc (Below.refl _ w) (Nat.le_refl _) _⟩
  case round =>
    obtain ⟨k, s, hk, rfl, rfl, HS, hbx, hB⟩ := hrel
    have hc := boxed hbx
    have hc0 := hc 0 _ rfl; have hc1 := hc 1 _ rfl; have hc2 := hc 2 _ rfl; have hc3 := hc 3 _ rfl; have hc4 := hc 4 _ rfl
    by_cases hlt : k < n3
    · obtain ⟨b, o, x, B1, m1, d1, B2, m2, d2, B3, m3, d3, rfl, hb, hx, hrd, k0, k1, k2, k3, k4⟩ := kid_at (sl_later HK.out hB) hlt
      have hmem := List.mem_of_getElem? hx
      have HX := Lib.hid hx
      have hxw : x.wt ≤ 1000000000 := by have := Tree.wt_kid hmem; have := HW.out; omega
      have HS2 : Hid (s + x.nodes ≤ 1000000000) := by
        show _ ≤ _
        have h1 := sum_take Tree.nodes hx
        have h2 := sum_take_le (l := t.kids) (k := k + 1) Tree.nodes
        have h3 := Tree.nodes_eq t
        have h4 := t.nodes_wt
        have := HW.out
        have := HS.out
        omega
      clear hc hx
      go_wp2_with fail
      refine Calls.mono (IH.out x hmem _ _ hrd hxw) ?_
      rintro e w2 ⟨rfl, hB2⟩
      have hW : IntKind.i64.wrap ((s : Int) + (x.nodes : Int)) = (s : Int) + (x.nodes : Int) := IntWalk.i64_in _ (by have := HS2.out; omega)
      have hbx2 := box_below hbx hB2 (Array.getElem?_eq_some_iff.1 hbx).1
      have hB3 := below_then hB hB2
      clear hB hB2 hbx hrd k0 k1 k2 k3 k4 hc0 hc1 hc2 hc3 hc4
      go_wp2
      go_roundw
      case rel => exact ⟨k + 1, s + x.nodes, by omega, by go_num, by go_num, by show _ = _; rw [sum_take Tree.nodes HX.out, HS.out]; omega, hbx2, hB3⟩
      case measure => simp [intOf] <;> omega
    · have HE : Hid (s = t.nodes) := by
        show _ = _
        rw [HS.out, Tree.nodes_eq, List.take_of_length_le (by have := HN.out; omega)]
      go_wp2
      go_ret
      exact ⟨by rw [← HE.out]; rfl, hB⟩
end Go.Proofs.YtdakeodebgggfaaDoor
