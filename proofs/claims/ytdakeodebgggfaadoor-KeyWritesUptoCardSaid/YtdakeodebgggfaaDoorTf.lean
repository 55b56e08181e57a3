/- The reference's tellings of a value: how deep; is it great. -/
import Derived.Test.YtdakeodebgggfaaDoorTe
namespace Go.Proofs.YtdakeodebgggfaaDoor
open Go.RowKit
set_option linter.unusedVariables false

theorem most_take {l : List Tree} {k : Nat} {x : Tree} (f : Tree → Nat) (h : l[k]? = some x) : most ((l.take (k + 1)).map f) = max (most ((l.take k).map f)) (f x) := by
  rw [List.take_add_one, h]
  simp [most]
theorem most_take_le {l : List Tree} (k : Nat) (f : Tree → Nat) : most ((l.take k).map f) ≤ most (l.map f) := by
  refine most_le.2 fun m hm => ?_
  obtain ⟨x, hx, rfl⟩ := List.mem_map.1 hm
  exact most_le.1 (Nat.le_refl _) _ (List.mem_map.2 ⟨x, List.mem_of_mem_take hx, rfl⟩)

set_option maxHeartbeats 1000000 in
set_option maxRecDepth 100000 in
theorem deep_c (t : Tree) : ∀ (w : World) (cs : List Value), Rep.tree.rd w (fun b => b < w.heap.size) cs t → t.wt ≤ 1000000000 →
    Calls Tryd.prog 45 #[.agg cs.toArray] w (Tells w (.int .i64 (t.deep : Nat))) := by
  refine Tree.ind (P := fun t => ∀ (w : World) (cs : List Value), Rep.tree.rd w (fun b => b < w.heap.size) cs t → t.wt ≤ 1000000000 → Calls Tryd.prog 45 #[.agg cs.toArray] w (Tells w (.int .i64 (t.deep : Nat)))) (fun t ih => ?_) t
  intro w cs h hw
  obtain ⟨A1, n1, c1, A2, n2, c2, A3, n3, c3, rfl, hp⟩ := Rep.tree_open h
  have HK := Lib.hid hp.2.2
  have HN := Lib.hid hp.2.2.1
  have hnc := hp.2.2.2.1
  have hcm := hp.2.2.2.2.1
  have IH := Lib.hid ih
  have HW := Lib.hid hw
  have hnw : n3 ≤ 1000000000 := by have := t.wt_kids; have := HN.out; omega
  clear ih h hp hw
  generalize hl : t.list = l at *
  generalize hh : t.hinted = hi at *
  have HL := Lib.hid hl
  clear hl hh
  have hbx0 := box_new w #[.bool l, .bool hi, .slice A1 n1 c1, .slice A2 n2 c2, .slice A3 n3 c3] 25
  cases l
  · have HE : Hid (t.deep = 0) := by show _ = _; rw [Tree.deep_eq, HL.out]; rfl
    go_enter Tryd.func45, Tryd.ntmps45
    go_wp2
    go_ret
    exact ⟨by rw [HE.out]; rfl, Below.alloc (Below.refl _ w) (Nat.le_refl _) _⟩
  have HD : Hid (t.deep = most (t.kids.map Tree.deep) + 1) := by show _ = _; rw [Tree.deep_eq, HL.out]; rfl
  go_enter Tryd.func45, Tryd.ntmps45
  go_wp2
  go_loopw [3, 11] (fun sx ix wr => ∃ (k s : Nat), k ≤ n3 ∧ ix = .int .i64 (k : Nat) ∧ sx = .int .i64 (s : Nat) ∧ s ≤ 1000000000 ∧ Hid (s = most ((t.kids.take k).map Tree.deep)) ∧ wr.heap[w.heap.size]? = some (.cells #[.bool true, .bool hi, .slice A1 n1 c1, .slice A2 n2 c2, .slice A3 n3 c3] 25 (0, 0)) ∧ Below w.heap.size w wr) (fun _ ix _ => n3 - (intOf ix).toNat)
  case atStart => exact ⟨0, 0, by omega, rfl, rfl, by omega, by show _ = _; simp [most], hbx0, Below.alloc (Below.refl _ w) (Nat.le_refl _) _⟩
  case round =>
    obtain ⟨k, s, hk, rfl, rfl, hs9, HS, hbx, hB⟩ := hrel
    have hc := boxed hbx
    have hc0 := hc 0 _ rfl; have hc1 := hc 1 _ rfl; have hc2 := hc 2 _ rfl; have hc3 := hc 3 _ rfl; have hc4 := hc 4 _ rfl
    by_cases hlt : k < n3
    · obtain ⟨b, o, x, B1, m1, d1, B2, m2, d2, B3, m3, d3, rfl, hb, hx, hrd, k0, k1, k2, k3, k4⟩ := kid_at (sl_later HK.out hB) hlt
      have hmem := List.mem_of_getElem? hx
      have HX := Lib.hid hx
      have hxw : x.wt ≤ 1000000000 := by have := Tree.wt_kid hmem; have := HW.out; omega
      have hxd : x.deep ≤ 1000000000 := by have := x.deep_wt; omega
      clear hc hx
      go_wp2_with fail
      refine Calls.mono (IH.out x hmem _ _ hrd hxw) ?_
      rintro e w2 ⟨rfl, hB2⟩
      have hm : max (s : Int) (x.deep : Int) = ((max s x.deep : Nat) : Int) := by omega
      have hbx2 := box_below hbx hB2 (Array.getElem?_eq_some_iff.1 hbx).1
      have hB3 := below_then hB hB2
      clear hB hB2 hbx hrd k0 k1 k2 k3 k4 hc0 hc1 hc2 hc3 hc4
      go_wp2
      go_roundw
      case rel => exact ⟨k + 1, max s x.deep, by omega, by go_num, by go_num, by omega, by show _ = _; rw [most_take Tree.deep HX.out, HS.out], hbx2, hB3⟩
      case measure => simp [intOf] <;> omega
    · have HE : Hid (t.deep = s + 1) := by
        show _ = _
        rw [HD.out, HS.out, List.take_of_length_le (by have := HN.out; omega)]
      have hW : IntKind.i64.wrap ((s : Int) + 1) = (s : Int) + 1 := IntWalk.i64_in _ (by omega)
      go_wp2
      go_ret
      exact ⟨by rw [HE.out]; rfl, hB⟩

def GreatPost (w : World) (e : Ending) (w' : World) : Prop := ∃ r, e = .returned (.bool r) ∧ Below w.heap.size w w'
set_option maxHeartbeats 1000000 in
set_option maxRecDepth 100000 in
theorem great_c (t : Tree) : ∀ (w : World) (cs : List Value) (k : Nat), Rep.tree.rd w (fun b => b < w.heap.size) cs t → t.wt ≤ 1000000000 → k ≤ 100 →
    Calls Tryd.prog 9 #[.agg cs.toArray, .int .i64 (k : Nat)] w (GreatPost w) := by
  refine Tree.ind (P := fun t => ∀ (w : World) (cs : List Value) (k : Nat), Rep.tree.rd w (fun b => b < w.heap.size) cs t → t.wt ≤ 1000000000 → k ≤ 100 → Calls Tryd.prog 9 #[.agg cs.toArray, .int .i64 (k : Nat)] w (GreatPost w)) (fun t ih => ?_) t
  intro w cs at0 h hw h60
  have HR := Lib.hid h
  obtain ⟨A1, n1, c1, A2, n2, c2, A3, n3, c3, rfl, hp⟩ := Rep.tree_open h
  have HK := Lib.hid hp.2.2
  have HN := Lib.hid hp.2.2.1
  have hnc := hp.2.2.2.1
  have hcm := hp.2.2.2.2.1
  have IH := Lib.hid ih
  have HW := Lib.hid hw
  clear ih h hp hw
  have hbx0 := box_new w #[.bool t.list, .bool t.hinted, .slice A1 n1 c1, .slice A2 n2 c2, .slice A3 n3 c3] 25
  have hcase : 60 < at0 ∨ (at0 ≤ 60 ∧ 700 < n3) ∨ (at0 ≤ 60 ∧ n3 ≤ 700 ∧ 5000 < n1) ∨ (at0 ≤ 60 ∧ n3 ≤ 700 ∧ n1 ≤ 5000 ∧ 5000 < n2) ∨ (at0 ≤ 60 ∧ n3 ≤ 700 ∧ n1 ≤ 5000 ∧ n2 ≤ 5000) := by omega
  rcases hcase with p1 | ⟨p1, p2⟩ | ⟨p1, p2, p3⟩ | ⟨p1, p2, p3, p4⟩ | ⟨p1, p2, p3, p4⟩
  · have d1 : decide ((60 : Int) < (at0 : Int)) = true := decide_eq_true (by omega)
    go_enter Tryd.func9, Tryd.ntmps9
    go_wp2
    go_ret
    exact ⟨_, rfl, Below.alloc (Below.refl _ w) (Nat.le_refl _) _⟩
  · have d1 : decide ((60 : Int) < (at0 : Int)) = false := decide_eq_false (by omega)
    have d2 : decide ((700 : Int) < (n3 : Int)) = true := decide_eq_true (by omega)
    go_enter Tryd.func9, Tryd.ntmps9
    go_wp2
    go_ret
    exact ⟨_, rfl, Below.alloc (Below.refl _ w) (Nat.le_refl _) _⟩
  · have d1 : decide ((60 : Int) < (at0 : Int)) = false := decide_eq_false (by omega)
    have d2 : decide ((700 : Int) < (n3 : Int)) = false := decide_eq_false (by omega)
    have d3 : decide ((5000 : Int) < (n1 : Int)) = true := decide_eq_true (by omega)
    go_enter Tryd.func9, Tryd.ntmps9
    go_wp2
    go_ret
    exact ⟨_, rfl, Below.alloc (Below.refl _ w) (Nat.le_refl _) _⟩
  · have d1 : decide ((60 : Int) < (at0 : Int)) = false := decide_eq_false (by omega)
    have d2 : decide ((700 : Int) < (n3 : Int)) = false := decide_eq_false (by omega)
    have d3 : decide ((5000 : Int) < (n1 : Int)) = false := decide_eq_false (by omega)
    have d4 : decide ((5000 : Int) < (n2 : Int)) = true := decide_eq_true (by omega)
    go_enter Tryd.func9, Tryd.ntmps9
    go_wp2
    go_ret
    exact ⟨_, rfl, Below.alloc (Below.refl _ w) (Nat.le_refl _) _⟩
  have d1 : decide ((60 : Int) < (at0 : Int)) = false := decide_eq_false (by omega)
  have d2 : decide ((700 : Int) < (n3 : Int)) = false := decide_eq_false (by omega)
  have d3 : decide ((5000 : Int) < (n1 : Int)) = false := decide_eq_false (by omega)
  have d4 : decide ((5000 : Int) < (n2 : Int)) = false := decide_eq_false (by omega)
  go_enter Tryd.func9, Tryd.ntmps9
  go_wp2
  go_loopw [29] (fun ix wr => ∃ (k : Nat), k ≤ n3 ∧ ix = .int .i64 (k : Nat) ∧ wr.heap[w.heap.size]? = some (.cells #[.bool t.list, .bool t.hinted, .slice A1 n1 c1, .slice A2 n2 c2, .slice A3 n3 c3] 25 (0, 0)) ∧ Below w.heap.size w wr) (fun ix _ => n3 - (intOf ix).toNat)
  case atStart => exact ⟨0, by omega, rfl, hbx0, Below.alloc (Below.refl _ w) (Nat.le_refl _) _⟩
  case round =>
    obtain ⟨k, hk, rfl, hbx, hB⟩ := hrel
    have hc := boxed hbx
    have hc0 := hc 0 _ rfl; have hc1 := hc 1 _ rfl; have hc2 := hc 2 _ rfl; have hc3 := hc 3 _ rfl; have hc4 := hc 4 _ rfl
    by_cases hlt : k < n3
    · obtain ⟨b, o, x, B1, m1, d1', B2, m2, d2', B3, m3, d3', rfl, hb, hx, hrd, k0, k1, k2, k3, k4⟩ := kid_at (sl_later HK.out hB) hlt
      have hmem := List.mem_of_getElem? hx
      have hxw : x.wt ≤ 1000000000 := by have := Tree.wt_kid hmem; have := HW.out; omega
      have hW : IntKind.i64.wrap ((at0 : Int) + 1) = ((at0 + 1 : Nat) : Int) := (IntWalk.i64_in _ (by omega)).trans (by omega)
      clear hc hx
      go_wp2_with fail
      refine Calls.mono (IH.out x hmem _ _ (at0 + 1) hrd hxw (by omega)) ?_
      rintro e w2 ⟨r, rfl, hB2⟩
      have hbx2 := box_below hbx hB2 (Array.getElem?_eq_some_iff.1 hbx).1
      have hB3 := below_then hB hB2
      clear hB hB2 hbx hrd k0 k1 k2 k3 k4 hc0 hc1 hc2 hc3 hc4
      cases r
      · go_wp2
        go_roundw
        case rel => exact ⟨k + 1, by omega, by go_num, hbx2, hB3⟩
        case measure => simp [intOf] <;> omega
      · go_wp2
        go_ret
        exact ⟨_, rfl, hB3⟩
    · by_cases h0 : at0 = 0
      · subst h0
        have hrd := rd_later HR.out hB
        go_wp2_with fail
        refine Calls.mono (nodes_c t _ _ hrd HW.out) ?_
        rintro e w2 ⟨rfl, hB2⟩
        have hB3 := below_then hB hB2
        clear hc hB hB2 hc0 hc1 hc2 hc3 hc4 hrd
        generalize decide ((2000 : Int) < (t.nodes : Int)) = dd at *
        go_wp2
        go_ret
        exact ⟨_, rfl, hB3⟩
      · have d0 : ((at0 : Int) == 0) = false := by rw [beq_eq_false_iff_ne]; omega
        go_wp2
        go_ret
        exact ⟨_, rfl, hB⟩
end Go.Proofs.YtdakeodebgggfaaDoor
