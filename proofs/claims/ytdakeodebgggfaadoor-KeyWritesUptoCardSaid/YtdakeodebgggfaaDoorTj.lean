/- The reference: may a value be; is it an atom of a text; are two the same. -/
import Derived.Test.YtdakeodebgggfaaDoorTi
namespace Go.Proofs.YtdakeodebgggfaaDoor
open Go.RowKit
set_option linter.unusedVariables false

set_option maxHeartbeats 1000000 in
set_option maxRecDepth 100000 in
theorem may_c (t : Tree) (w : World) (cs : List Value) (h : Rep.tree.rd w (fun b => b < w.heap.size) cs t) (hw : t.wt ≤ 10000000) :
    Calls Tryd.prog 22 #[.agg cs.toArray] w (Tells w (.bool t.may)) := by
  have HR := Lib.hid h
  obtain ⟨A1, n1, c1, A2, n2, c2, A3, n3, c3, rfl, hp⟩ := Rep.tree_open h
  have HW := Lib.hid hw
  clear h hp hw
  have hbx0 := box_new w #[.bool t.list, .bool t.hinted, .slice A1 n1 c1, .slice A2 n2 c2, .slice A3 n3 c3] 25
  have HB0 := Lib.hid (Below.alloc (Below.refl _ w) (Nat.le_refl _) (.cells #[.bool t.list, .bool t.hinted, .slice A1 n1 c1, .slice A2 n2 c2, .slice A3 n3 c3] 25))
  go_enter Tryd.func22, Tryd.ntmps22
  go_wp2_with fail
  refine Calls.mono (clean_c t _ _ (rd_later HR.out HB0.out)) ?_
  rintro e w1 ⟨rfl, hB1⟩
  have HB1 := Lib.hid (below_then HB0.out hB1)
  have hbx1 := box_below hbx0 hB1 (Array.getElem?_eq_some_iff.1 hbx0).1
  have hc := boxed hbx1
  have hc0 := hc 0 _ rfl; have hc1 := hc 1 _ rfl; have hc2 := hc 2 _ rfl; have hc3 := hc 3 _ rfl; have hc4 := hc 4 _ rfl
  clear hc hB1 hbx0
  cases hq1 : t.clean with
  | false =>
    have HM : Hid (t.may = false) := by show _ = _; rw [Tree.may, hq1]; rfl
    clear hq1
    go_wp2
    go_ret
    exact ⟨by rw [HM.out]; rfl, HB1.out⟩
  | true =>
  have HQ1 := Lib.hid hq1
  clear hq1
  go_wp2_with fail
  refine Calls.mono (nodes_c t _ _ (rd_later HR.out HB1.out) (by have := HW.out; omega)) ?_
  rintro e w2 ⟨rfl, hB2⟩
  clear hc0 hc1 hc2 hc3 hc4
  have HB2 := Lib.hid (below_then HB1.out hB2)
  have hbx2 := box_below hbx1 hB2 (Array.getElem?_eq_some_iff.1 hbx1).1
  have hc := boxed hbx2
  have hc0 := hc 0 _ rfl; have hc1 := hc 1 _ rfl; have hc2 := hc 2 _ rfl; have hc3 := hc 3 _ rfl; have hc4 := hc 4 _ rfl
  clear hc hB2 hbx1
  by_cases hq2 : t.nodes ≤ 512
  case neg =>
    have HM : Hid (t.may = false) := by show _ = _; rw [Tree.may, HQ1.out, decide_eq_false hq2]; rfl
    have d : decide ((t.nodes : Int) ≤ 512) = false := decide_eq_false (by omega)
    go_wp2
    go_ret
    exact ⟨by rw [HM.out]; rfl, HB2.out⟩
  have HQ2 := Lib.hid hq2
  have dd2 : decide ((t.nodes : Int) ≤ 512) = true := decide_eq_true (by omega)
  clear hq2
  go_wp2_with fail
  refine Calls.mono (deep_c t _ _ (rd_later HR.out HB2.out) (by have := HW.out; omega)) ?_
  rintro e w3 ⟨rfl, hB3⟩
  clear hc0 hc1 hc2 hc3 hc4 dd2
  have HB3 := Lib.hid (below_then HB2.out hB3)
  have hbx3 := box_below hbx2 hB3 (Array.getElem?_eq_some_iff.1 hbx2).1
  have hc := boxed hbx3
  have hc0 := hc 0 _ rfl; have hc1 := hc 1 _ rfl; have hc2 := hc 2 _ rfl; have hc3 := hc 3 _ rfl; have hc4 := hc 4 _ rfl
  clear hc hB3 hbx2
  by_cases hq3 : t.deep ≤ 16
  case neg =>
    have HM : Hid (t.may = false) := by show _ = _; rw [Tree.may, HQ1.out, decide_eq_true HQ2.out, decide_eq_false hq3]; rfl
    have d : decide ((t.deep : Int) ≤ 16) = false := decide_eq_false (by omega)
    go_wp2
    go_ret
    exact ⟨by rw [HM.out]; rfl, HB3.out⟩
  have HQ3 := Lib.hid hq3
  have dd3 : decide ((t.deep : Int) ≤ 16) = true := decide_eq_true (by omega)
  clear hq3
  go_wp2_with fail
  refine Calls.mono (form_c t _ _ (rd_later HR.out HB3.out) HW.out) ?_
  rintro e w4 ⟨A4, c4, rfl, hs4, hB4⟩
  clear hc0 hc1 hc2 hc3 hc4 dd3 hs4
  have HB4 := Lib.hid (below_then HB3.out hB4)
  have hbx4 := box_below hbx3 hB4 (Array.getElem?_eq_some_iff.1 hbx3).1
  have hc := boxed hbx4
  have hc0 := hc 0 _ rfl; have hc1 := hc 1 _ rfl; have hc2 := hc 2 _ rfl; have hc3 := hc 3 _ rfl; have hc4 := hc 4 _ rfl
  clear hc hB4 hbx3
  have HM : Hid (t.may = decide (t.form.length ≤ 4096)) := by show _ = _; rw [Tree.may, HQ1.out, decide_eq_true HQ2.out, decide_eq_true HQ3.out]; rfl
  have d : decide ((t.form.length : Int) ≤ 4096) = decide (t.form.length ≤ 4096) := by rw [decide_eq_decide]; omega
  generalize t.form.length = m at *
  go_wp2
  go_ret
  exact ⟨by rw [HM.out, ← d]; rfl, HB4.out⟩

def isB (t : Tree) (s : List UInt8) : Bool := !t.list && !t.hinted && (t.data == s)
set_option maxHeartbeats 1000000 in
set_option maxRecDepth 100000 in
theorem isref_c (t : Tree) (s : List UInt8) (w : World) (cs : List Value) (h : Rep.tree.rd w (fun b => b < w.heap.size) cs t) :
    Calls Tryd.prog 47 #[.agg cs.toArray, .string ⟨s.toArray⟩] w (Tells w (.bool (isB t s))) := by
  obtain ⟨A1, n1, c1, A2, n2, c2, A3, n3, c3, rfl, hp⟩ := Rep.tree_open h
  have HB0 := Lib.hid (Below.alloc (Below.refl _ w) (Nat.le_refl _) (.cells #[.bool t.list, .bool t.hinted, .slice A1 n1 c1, .slice A2 n2 c2, .slice A3 n3 c3] 25))
  have HM : Hid (isB t s = (!t.list && !t.hinted && (t.data == s))) := rfl
  have HD := Lib.hid (sl_later hp.2.1 HB0.out)
  clear h hp
  generalize hl : t.list = l at *
  generalize hh : t.hinted = hi at *
  clear hl hh
  have kc := conv_bs Tryd.underlying22 Tryd.underlying5 Tryd.underlying9 HD.out
  go_enter Tryd.func47, Tryd.ntmps47
  cases l <;> cases hi
  all_goals
    go_wp2
    go_ret
    exact ⟨by rw [HM.out]; rfl, HB0.out⟩
def headB (t : Tree) (s : List UInt8) : Bool := t.list && (match t.kids with
  | [] => false
  | x :: _ => isB x s)
set_option maxHeartbeats 1000000 in
set_option maxRecDepth 100000 in
theorem headref_c (t : Tree) (s : List UInt8) (w : World) (cs : List Value) (h : Rep.tree.rd w (fun b => b < w.heap.size) cs t) :
    Calls Tryd.prog 36 #[.agg cs.toArray, .string ⟨s.toArray⟩] w (Tells w (.bool (headB t s))) := by
  obtain ⟨A1, n1, c1, A2, n2, c2, A3, n3, c3, rfl, hp⟩ := Rep.tree_open h
  have HB0 := Lib.hid (Below.alloc (Below.refl _ w) (Nat.le_refl _) (.cells #[.bool t.list, .bool t.hinted, .slice A1 n1 c1, .slice A2 n2 c2, .slice A3 n3 c3] 25))
  have HK := Lib.hid (sl_later hp.2.2 HB0.out)
  have HN := Lib.hid hp.2.2.1
  have hnc := hp.2.2.2.1
  clear h hp
  generalize hl : t.list = l at *
  generalize hh : t.hinted = hi at *
  have HL := Lib.hid hl
  clear hl hh
  go_enter Tryd.func36, Tryd.ntmps36
  cases l
  · have HE : Hid (headB t s = false) := by show _ = _; rw [headB, HL.out]; rfl
    go_wp2
    go_ret
    exact ⟨by rw [HE.out]; rfl, HB0.out⟩
  · rcases Nat.eq_zero_or_pos n3 with h0 | h0
    · have HE : Hid (headB t s = false) := by show _ = _; rw [headB, HL.out, List.eq_nil_of_length_eq_zero (HN.out.trans h0)]; rfl
      subst h0
      go_wp2
      go_ret
      exact ⟨by rw [HE.out]; rfl, HB0.out⟩
    · obtain ⟨b, o, x, B1, m1, d1, B2, m2, d2, B3, m3, d3, rfl, hb, hx, hrd, k0, k1, k2, k3, k4⟩ := kid_at HK.out h0
      simp only [Nat.zero_mul, Nat.add_zero] at k0 k1 k2 k3 k4
      have HE : Hid (headB t s = isB x s) := by
        show _ = _
        rw [headB, HL.out]
        cases hk : t.kids with
        | nil => rw [hk] at hx; cases hx
        | cons y r => rw [hk] at hx; injection hx with hx; subst hx; rfl
      clear hx
      go_wp2_with fail
      refine Calls.mono (isref_c x s _ _ hrd) ?_
      rintro e w2 ⟨rfl, hB2⟩
      have HB2 := Lib.hid (below_then HB0.out hB2)
      clear hB2 k0 k1 k2 k3 k4 hrd
      go_wp2
      go_ret
      exact ⟨by rw [HE.out]; rfl, HB2.out⟩

theorem same_kids {t u : Tree} (h1 : t.list = u.list) (h2 : t.hinted = u.hinted) (h3 : t.hint = u.hint) (h4 : t.data = u.data) : t.same u = true ↔ t.kids = u.kids := by
  rw [Tree.same_true, Tree.ext_iff]
  exact ⟨fun h => h.2.2.2.2, fun h => ⟨h1, h2, h3, h4, h⟩⟩
theorem take_snoc_eq {l m : List Tree} {k : Nat} {x y : Tree} (h : l.take k = m.take k) (hx : l[k]? = some x) (hy : m[k]? = some y) (e : x = y) : l.take (k + 1) = m.take (k + 1) := by
  rw [List.take_add_one, List.take_add_one, h, hx, hy, e]
set_option maxHeartbeats 2000000 in
set_option maxRecDepth 100000 in
theorem sameref_c (t : Tree) : ∀ (u : Tree) (w : World) (cs ds : List Value), Rep.tree.rd w (fun b => b < w.heap.size) cs t → Rep.tree.rd w (fun b => b < w.heap.size) ds u →
    Calls Tryd.prog 18 #[.agg cs.toArray, .agg ds.toArray] w (Tells w (.bool (t.same u))) := by
  refine Tree.ind (P := fun t => ∀ (u : Tree) (w : World) (cs ds : List Value), Rep.tree.rd w (fun b => b < w.heap.size) cs t → Rep.tree.rd w (fun b => b < w.heap.size) ds u → Calls Tryd.prog 18 #[.agg cs.toArray, .agg ds.toArray] w (Tells w (.bool (t.same u)))) (fun t ih => ?_) t
  intro u w cs ds h h'
  obtain ⟨A1, n1, c1, A2, n2, c2, A3, n3, c3, rfl, hp⟩ := Rep.tree_open h
  obtain ⟨B1, m1, d1, B2, m2, d2, B3, m3, d3, rfl, hp'⟩ := Rep.tree_open h'
  have HB0 := Lib.hid ((Below.alloc (Below.refl _ w) (Nat.le_refl _) (.cells #[.bool t.list, .bool t.hinted, .slice A1 n1 c1, .slice A2 n2 c2, .slice A3 n3 c3] 25)).alloc (by simp only [World.size_alloc]; omega) (.cells #[.bool u.list, .bool u.hinted, .slice B1 m1 d1, .slice B2 m2 d2, .slice B3 m3 d3] 25))
  have HK := Lib.hid hp.2.2
  have HK' := Lib.hid hp'.2.2
  have HN := Lib.hid hp.2.2.1
  have HN' := Lib.hid hp'.2.2.1
  have hnc := hp.2.2.2.1
  have hcm := hp.2.2.2.2.1
  have hmc := hp'.2.2.2.1
  have hcm' := hp'.2.2.2.2.1
  have ka := conv_bs Tryd.underlying22 Tryd.underlying5 Tryd.underlying9 (sl_later hp.1 HB0.out)
  have kb := conv_bs Tryd.underlying22 Tryd.underlying5 Tryd.underlying9 (sl_later hp'.1 HB0.out)
  have kc := conv_bs Tryd.underlying22 Tryd.underlying5 Tryd.underlying9 (sl_later hp.2.1 HB0.out)
  have kd := conv_bs Tryd.underlying22 Tryd.underlying5 Tryd.underlying9 (sl_later hp'.2.1 HB0.out)
  have IH := Lib.hid ih
  have HEX : Hid (t = u ↔ t.list = u.list ∧ t.hinted = u.hinted ∧ t.hint = u.hint ∧ t.data = u.data ∧ t.kids = u.kids) := Tree.ext_iff
  clear ih h h' hp hp'
  generalize hl : t.list = l at *
  generalize hh : t.hinted = hi at *
  generalize hl' : u.list = l' at *
  generalize hh' : u.hinted = hi' at *
  clear hl hh hl' hh'
  have hcase : (l != l') = true ∨ (l = l' ∧ (hi != hi') = true) ∨ (l = l' ∧ hi = hi' ∧ (t.hint != u.hint) = true) ∨ (l = l' ∧ hi = hi' ∧ (t.hint == u.hint) = true ∧ (t.data != u.data) = true) ∨
      (l = l' ∧ hi = hi' ∧ (t.hint == u.hint) = true ∧ (t.data == u.data) = true ∧ n3 ≠ m3) ∨ (l = l' ∧ hi = hi' ∧ (t.hint == u.hint) = true ∧ (t.data == u.data) = true ∧ n3 = m3) := by
    simp only [bne]
    cases l <;> cases l' <;> cases hi <;> cases hi' <;> cases (t.hint == u.hint) <;> cases (t.data == u.data) <;> simp <;> omega
  go_enter Tryd.func18, Tryd.ntmps18
  rcases hcase with p1 | ⟨rfl, p1⟩ | ⟨rfl, rfl, p1⟩ | ⟨rfl, rfl, p1, p2⟩ | ⟨rfl, rfl, p1, p2, p3⟩ | ⟨rfl, rfl, p1, p2, p3⟩
  · have HE : Hid (t.same u = false) := Tree.same_false fun e => by have := (HEX.out.1 e).1; rw [this] at p1; simp at p1
    cases l <;> cases l'
    all_goals first | (exact absurd p1 (by decide)) | skip
    all_goals
      go_wp2
      go_ret
      exact ⟨by rw [HE.out]; rfl, HB0.out⟩
  · have HE : Hid (t.same u = false) := Tree.same_false fun e => by have := (HEX.out.1 e).2.1; rw [this] at p1; simp at p1
    cases hi <;> cases hi'
    all_goals first | (exact absurd p1 (by decide)) | skip
    all_goals
      go_wp2
      go_ret
      exact ⟨by rw [HE.out]; rfl, HB0.out⟩
  · have HE : Hid (t.same u = false) := Tree.same_false fun e => by have := (HEX.out.1 e).2.2.1; rw [this] at p1; simp at p1
    have q1 : ¬ t.hint = u.hint := by simpa using p1
    have q2 : (t.hint == u.hint) = false := by simpa using q1
    clear p1
    go_wp2
    go_ret
    exact ⟨by rw [HE.out]; rfl, HB0.out⟩
  · have HE : Hid (t.same u = false) := Tree.same_false fun e => by have := (HEX.out.1 e).2.2.2.1; rw [this] at p2; simp at p2
    have q1 : ¬ t.data = u.data := by simpa using p2
    have q2 : (t.data == u.data) = false := by simpa using q1
    clear p2
    go_wp2
    go_ret
    exact ⟨by rw [HE.out]; rfl, HB0.out⟩
  · have HE : Hid (t.same u = false) := Tree.same_false fun e => p3 (by rw [← HN.out, ← HN'.out, e])
    have p4 : ((n3 : Int) != (m3 : Int)) = true := by rw [bne_iff_ne]; omega
    go_wp2
    go_ret
    exact ⟨by rw [HE.out]; rfl, HB0.out⟩
  subst p3
  have HQ : Hid (t.same u = true ↔ t.kids = u.kids) := by
    show _ ↔ _
    have e1 : t.hint = u.hint := by simpa using p1
    have e2 : t.data = u.data := by simpa using p2
    rw [Tree.same_true, HEX.out]
    exact ⟨fun h => h.2.2.2.2, fun h => ⟨rfl, rfl, e1, e2, h⟩⟩
  clear HEX
  have hbx0 := box_alloc (box_new w #[.bool l, .bool hi, .slice A1 n1 c1, .slice A2 n2 c2, .slice A3 n3 c3] 25) (.cells #[.bool l, .bool hi, .slice B1 m1 d1, .slice B2 m2 d2, .slice B3 n3 d3] 25)
  have hby0 : ((w.alloc (.cells #[.bool l, .bool hi, .slice A1 n1 c1, .slice A2 n2 c2, .slice A3 n3 c3] 25)).alloc (.cells #[.bool l, .bool hi, .slice B1 m1 d1, .slice B2 m2 d2, .slice B3 n3 d3] 25)).heap[w.heap.size + 1]? = some (.cells #[.bool l, .bool hi, .slice B1 m1 d1, .slice B2 m2 d2, .slice B3 n3 d3] 25 (0, 0)) := by
    have := box_new (w.alloc (.cells #[.bool l, .bool hi, .slice A1 n1 c1, .slice A2 n2 c2, .slice A3 n3 c3] 25)) #[.bool l, .bool hi, .slice B1 m1 d1, .slice B2 m2 d2, .slice B3 n3 d3] 25
    simpa only [World.size_alloc] using this
  go_wp2
  go_loopw [48] (fun ix wr => ∃ (k : Nat), k ≤ n3 ∧ ix = .int .i64 (k : Nat) ∧ Hid (t.kids.take k = u.kids.take k) ∧ wr.heap[w.heap.size]? = some (.cells #[.bool l, .bool hi, .slice A1 n1 c1, .slice A2 n2 c2, .slice A3 n3 c3] 25 (0, 0)) ∧ wr.heap[w.heap.size + 1]? = some (.cells #[.bool l, .bool hi, .slice B1 m1 d1, .slice B2 m2 d2, .slice B3 n3 d3] 25 (0, 0)) ∧ Below w.heap.size w wr) (fun ix _ => n3 - (intOf ix).toNat)
  case atStart => exact ⟨0, by omega, rfl, by show _ = _; rfl, hbx0, hby0, HB0.out⟩
  case round =>
    obtain ⟨k, hk, rfl, HS, hbx, hby, hB⟩ := hrel
    have hc := boxed hbx
    have hc0 := hc 0 _ rfl; have hc1 := hc 1 _ rfl; have hc2 := hc 2 _ rfl; have hc3 := hc 3 _ rfl; have hc4 := hc 4 _ rfl
    have he := boxed hby
    have he0 := he 0 _ rfl; have he1 := he 1 _ rfl; have he2 := he 2 _ rfl; have he3 := he 3 _ rfl; have he4 := he 4 _ rfl
    by_cases hlt : k < n3
    · obtain ⟨b, o, x, E1, i1, f1, E2, i2, f2, E3, i3, f3, rfl, hb, hx, hrd, k0, k1, k2, k3, k4⟩ := kid_at (sl_later HK.out hB) hlt
      obtain ⟨b', o', x', E1', i1', f1', E2', i2', f2', E3', i3', f3', rfl, hb', hx', hrd', k0', k1', k2', k3', k4'⟩ := kid_at (sl_later HK'.out hB) hlt
      have hmem := List.mem_of_getElem? hx
      have HX := Lib.hid hx
      have HX' := Lib.hid hx'
      have hk0 : (0 : Int) ≤ (k : Int) := by omega
      have hkn : (k : Int) < (n3 : Int) := by omega
      clear hc he hx hx' hbx0 hby0 ka kb kc kd p1 p2
      have HRD : Hid (Rep.tree.rd wr.drew (fun b => b < wr.drew.heap.size) [.bool x.list, .bool x.hinted, .slice E1 i1 f1, .slice E2 i2 f2, .slice E3 i3 f3] x) := rd_later hrd (Below.refl _ _).drew
      have HRD' : Hid (Rep.tree.rd wr.drew (fun b => b < wr.drew.heap.size) [.bool x'.list, .bool x'.hinted, .slice E1' i1' f1', .slice E2' i2' f2', .slice E3' i3' f3'] x') := rd_later hrd' (Below.refl _ _).drew
      have hlx := (Array.getElem?_eq_some_iff.1 hbx).1
      have hly := (Array.getElem?_eq_some_iff.1 hby).1
      have HX3 : Hid (x.same x' = false → t.same u = false) := by
        show _ → _
        intro h
        cases hq : t.same u with
        | false => rfl
        | true =>
          have := HQ.out.1 hq
          have h1 := HX.out
          rw [this, HX'.out] at h1
          injection h1 with h1
          rw [h1, Tree.same_refl] at h
          cases h
      have HX4 : Hid (x.same x' = true → t.kids.take (k + 1) = u.kids.take (k + 1)) := fun h => take_snoc_eq HS.out HX.out HX'.out (Tree.same_true.1 h)
      clear hrd hrd'
      go_wp2_with fail
      go_region_with (go_at_call 18; refine Calls.mono (IH.out x hmem x' _ _ _ HRD.out HRD'.out) ?_; rintro e w2 ⟨rfl, hB2⟩; have hbx2 := box_below (w := wr.drew) hbx hB2 hlx; have hby2 := box_below (w := wr.drew) hby hB2 hly; have HB2 := Lib.hid (below_then hB.drew hB2); clear hB2)
      all_goals
        clear hc0 hc1 hc2 hc3 hc4 he0 he1 he2 he3 he4 k0 k1 k2 k3 k4 k0' k1' k2' k3' k4' hbx hby
        cases hq : x.same x'
        · have HE := Lib.hid (HX3.out hq)
          clear hq
          go_wp2
          go_ret
          exact ⟨by rw [HE.out]; rfl, HB2.out⟩
        · have HE := Lib.hid (HX4.out hq)
          clear hq
          go_wp2
          go_roundw
          case rel => exact ⟨k + 1, by omega, by go_num, HE, hbx2, hby2, HB2.out⟩
          case measure => simp [intOf] <;> omega
    · have HE : Hid (t.same u = true) := by
        refine HQ.out.2 ?_
        have h1 := HS.out
        rw [List.take_of_length_le (by have := HN.out; omega), List.take_of_length_le (by have := HN'.out; omega)] at h1
        exact h1
      clear hc he
      go_wp2
      go_ret
      exact ⟨by rw [HE.out]; rfl, hB⟩
end Go.Proofs.YtdakeodebgggfaaDoor
