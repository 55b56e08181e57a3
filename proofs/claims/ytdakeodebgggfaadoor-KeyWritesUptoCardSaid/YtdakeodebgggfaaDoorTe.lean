/- The reference's tellings of a value: is it clean. -/
import Derived.Test.YtdakeodebgggfaaDoorTd
namespace Go.Proofs.YtdakeodebgggfaaDoor
open Go.RowKit
set_option linter.unusedVariables false

theorem all_take {l : List Tree} {k : Nat} {x : Tree} (f : Tree → Bool) (h : l[k]? = some x) : (l.take (k + 1)).all f = ((l.take k).all f && f x) := by
  rw [List.take_add_one, h]
  simp
theorem all_false {l : List Tree} {x : Tree} (f : Tree → Bool) (h : x ∈ l) (hf : f x = false) : l.all f = false := by
  rw [List.all_eq_false]
  exact ⟨x, h, by rw [hf]; simp⟩

set_option maxHeartbeats 2000000 in
set_option maxRecDepth 100000 in
theorem clean_c (t : Tree) : ∀ (w : World) (cs : List Value), Rep.tree.rd w (fun b => b < w.heap.size) cs t →
    Calls Tryd.prog 44 #[.agg cs.toArray] w (Tells w (.bool t.clean)) := by
  refine Tree.ind (P := fun t => ∀ (w : World) (cs : List Value), Rep.tree.rd w (fun b => b < w.heap.size) cs t → Calls Tryd.prog 44 #[.agg cs.toArray] w (Tells w (.bool t.clean))) (fun t ih => ?_) t
  intro w cs h
  obtain ⟨A1, n1, c1, A2, n2, c2, A3, n3, c3, rfl, hp⟩ := Rep.tree_open h
  have HK := Lib.hid hp.2.2
  have HN := Lib.hid hp.2.2.1
  have HN1 := Lib.hid hp.1.1
  have HN2 := Lib.hid hp.2.1.1
  have hnc := hp.2.2.2.1
  have hcm := hp.2.2.2.2.1
  have IH := Lib.hid ih
  clear ih h hp
  have HF : Hid (t.fair = if t.list then !t.hinted && (n1 == 0) && (n2 == 0) else (n3 == 0) && (t.hinted || (n1 == 0))) := by
    show _ = _
    rw [Tree.fair, HN.out, HN1.out, HN2.out]
  generalize hl : t.list = l at *
  generalize hh : t.hinted = hi at *
  have HL := Lib.hid hl
  have HH := Lib.hid hh
  clear hl hh
  have hbx0 := box_new w #[.bool l, .bool hi, .slice A1 n1 c1, .slice A2 n2 c2, .slice A3 n3 c3] 25
  cases hf : t.fair with
  | false =>
    have HC : Hid (t.clean = false) := by show _ = _; rw [Tree.clean_eq, hf]; rfl
    have hf' := HF.out.symm.trans hf
    clear hf HF
    have hcase : (l = true ∧ hi = true) ∨ (l = true ∧ hi = false ∧ 0 < n1) ∨ (l = true ∧ hi = false ∧ n1 = 0 ∧ 0 < n2) ∨ (l = false ∧ 0 < n3) ∨ (l = false ∧ n3 = 0 ∧ hi = false ∧ 0 < n1) := by
      revert hf'
      cases l <;> cases hi <;> simp <;> omega
    clear hf'
    rcases hcase with ⟨rfl, rfl⟩ | ⟨rfl, rfl, p⟩ | ⟨rfl, rfl, rfl, p⟩ | ⟨rfl, p⟩ | ⟨rfl, rfl, rfl, p⟩
    all_goals
      go_enter Tryd.func44, Tryd.ntmps44
      go_wp2
      go_ret
      exact ⟨by rw [HC.out]; rfl, Below.alloc (Below.refl _ w) (Nat.le_refl _) _⟩
  | true =>
    have HC : Hid (t.clean = t.kids.all Tree.clean) := by show _ = _; rw [Tree.clean_eq, hf]; rfl
    have hf' := HF.out.symm.trans hf
    clear hf HF
    have hcase : (l = true ∧ hi = false ∧ n1 = 0 ∧ n2 = 0) ∨ (l = false ∧ n3 = 0 ∧ hi = true) ∨ (l = false ∧ n3 = 0 ∧ hi = false ∧ n1 = 0) := by
      revert hf'
      cases l <;> cases hi <;> simp <;> omega
    clear hf'
    rcases hcase with ⟨rfl, rfl, rfl, rfl⟩ | ⟨rfl, rfl, rfl⟩ | ⟨rfl, rfl, rfl, rfl⟩
    all_goals
      go_enter Tryd.func44, Tryd.ntmps44
      go_wp2
    · skip
      go_loopw [47] (fun ix wr => ∃ (k : Nat), k ≤ n3 ∧ ix = .int .i64 (k : Nat) ∧ Hid ((t.kids.take k).all Tree.clean = true) ∧ wr.heap[w.heap.size]? = some (.cells #[.bool true, .bool false, .slice A1 0 c1, .slice A2 0 c2, .slice A3 n3 c3] 25 (0, 0)) ∧ Below w.heap.size w wr) (fun ix _ => n3 - (intOf ix).toNat)
      case atStart => exact ⟨0, by omega, rfl, by show _ = _; simp, hbx0, Below.alloc (Below.refl _ w) (Nat.le_refl _) _⟩
      case round =>
        obtain ⟨k, hk, rfl, HS, hbx, hB⟩ := hrel
        have hc := boxed hbx
        have hc0 := hc 0 _ rfl; have hc1 := hc 1 _ rfl; have hc2 := hc 2 _ rfl; have hc3 := hc 3 _ rfl; have hc4 := hc 4 _ rfl
        by_cases hlt : k < n3
        · obtain ⟨b, o, x, B1, m1, d1', B2, m2, d2', B3, m3, d3', rfl, hb, hx, hrd, k0, k1, k2, k3, k4⟩ := kid_at (sl_later HK.out hB) hlt
          have hmem := List.mem_of_getElem? hx
          have HX := Lib.hid hx
          clear hc hx
          go_wp2_with fail
          refine Calls.mono (IH.out x hmem _ _ hrd) ?_
          rintro e w2 ⟨rfl, hB2⟩
          have hbx2 := box_below hbx hB2 (Array.getElem?_eq_some_iff.1 hbx).1
          have hB3 := below_then hB hB2
          clear hB hB2 hbx hrd k0 k1 k2 k3 k4 hc0 hc1 hc2 hc3 hc4
          cases hxc : x.clean with
          | false =>
            have HE : Hid (t.clean = false) := by show _ = _; rw [HC.out]; exact all_false _ hmem hxc
            clear hxc
            go_wp2
            go_ret
            exact ⟨by rw [HE.out]; rfl, hB3⟩
          | true =>
            have HS3 : Hid ((t.kids.take (k + 1)).all Tree.clean = true) := by show _ = _; rw [all_take _ HX.out, HS.out, hxc]; rfl
            clear hxc
            go_wp2
            go_roundw
            case rel => exact ⟨k + 1, by omega, by go_num, HS3, hbx2, hB3⟩
            case measure => simp [intOf] <;> omega
        · have HE : Hid (t.clean = true) := by
            show _ = _
            rw [HC.out, ← HS.out, List.take_of_length_le (by have := HN.out; omega)]
          go_wp2
          go_ret
          exact ⟨by rw [HE.out]; rfl, hB⟩
    · skip
      have HE : Hid (t.clean = true) := by show _ = _; rw [HC.out, List.eq_nil_of_length_eq_zero HN.out]; rfl
      go_loopw [47] (fun ix wr => ix = .int .i64 0 ∧ wr.heap[w.heap.size]? = some (.cells #[.bool false, .bool true, .slice A1 n1 c1, .slice A2 n2 c2, .slice A3 0 c3] 25 (0, 0)) ∧ Below w.heap.size w wr) (fun ix _ => 0)
      case atStart => exact ⟨rfl, hbx0, Below.alloc (Below.refl _ w) (Nat.le_refl _) _⟩
      case round =>
        obtain ⟨rfl, hbx, hB⟩ := hrel
        have hc := boxed hbx
        have hc0 := hc 0 _ rfl; have hc1 := hc 1 _ rfl; have hc2 := hc 2 _ rfl; have hc3 := hc 3 _ rfl; have hc4 := hc 4 _ rfl
        go_wp2
        go_ret
        exact ⟨by rw [HE.out]; rfl, hB⟩
    · skip
      have HE : Hid (t.clean = true) := by show _ = _; rw [HC.out, List.eq_nil_of_length_eq_zero HN.out]; rfl
      go_loopw [47] (fun ix wr => ix = .int .i64 0 ∧ wr.heap[w.heap.size]? = some (.cells #[.bool false, .bool false, .slice A1 0 c1, .slice A2 n2 c2, .slice A3 0 c3] 25 (0, 0)) ∧ Below w.heap.size w wr) (fun ix _ => 0)
      case atStart => exact ⟨rfl, hbx0, Below.alloc (Below.refl _ w) (Nat.le_refl _) _⟩
      case round =>
        obtain ⟨rfl, hbx, hB⟩ := hrel
        have hc := boxed hbx
        have hc0 := hc 0 _ rfl; have hc1 := hc 1 _ rfl; have hc2 := hc 2 _ rfl; have hc3 := hc 3 _ rfl; have hc4 := hc 4 _ rfl
        go_wp2
        go_ret
        exact ⟨by rw [HE.out]; rfl, hB⟩
end Go.Proofs.YtdakeodebgggfaaDoor
