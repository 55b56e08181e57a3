/- The program's telling whether a value may be. -/
import Derived.Test.YtdakeodebgggfaaDoorTk
namespace Go.Proofs.YtdakeodebgggfaaDoor
open Go.RowKit
set_option linter.unusedVariables false

theorem okT_deep {t : Tree} {n d : Nat} (hl : t.list = true) (h : 16 < d) : okT t n d = false := by
  have h1 : 1 ≤ t.deep := by rw [Tree.deep_eq, hl]; simp
  simp [okT]
  intro _ _
  omega
/-- What the count knows behind k of a list's values. -/
def CInv (t : Tree) (n d k : Nat) : Prop :=
  (t.kids.take k).all Tree.clean = true ∧ n + 1 + ((t.kids.take k).map Tree.nodes).sum ≤ 512 ∧ ∀ x ∈ t.kids.take k, x.deep + (d + 1) ≤ 17
theorem CInv.zero {t : Tree} {n d : Nat} (h : n + 1 ≤ 512) : CInv t n d 0 := ⟨by simp, by simpa using h, by simp⟩
theorem okT_parts {x : Tree} {m d : Nat} (h : okT x m d = true) : x.clean = true ∧ m + x.nodes ≤ 512 ∧ x.deep + d ≤ 17 := by
  simp [okT] at h
  exact ⟨h.1.1, h.1.2, h.2⟩
theorem CInv.step {t x : Tree} {n d k : Nat} (h : CInv t n d k) (hx : t.kids[k]? = some x) (ho : okT x (n + 1 + ((t.kids.take k).map Tree.nodes).sum) (d + 1) = true) : CInv t n d (k + 1) := by
  obtain ⟨h1, h2, h3⟩ := h
  obtain ⟨o1, o2, o3⟩ := okT_parts ho
  refine ⟨by rw [all_take _ hx, h1, o1]; rfl, by rw [sum_take _ hx]; omega, fun y hy => ?_⟩
  rw [List.take_add_one, hx] at hy
  simp only [Option.toList_some, List.mem_append, List.mem_singleton] at hy
  rcases hy with hy | rfl
  · exact h3 y hy
  · exact o3
theorem CInv.done {t : Tree} {n d k : Nat} (h : CInv t n d k) (hk : t.kids.length ≤ k) (hl : t.list = true) (hf : t.fair = true) (hd : d ≤ 16) : okT t n d = true := by
  obtain ⟨h1, h2, h3⟩ := h
  rw [List.take_of_length_le hk] at h1 h2 h3
  have e1 : t.clean = true := by rw [Tree.clean_eq, hf, h1]; rfl
  have e2 : n + t.nodes ≤ 512 := by rw [Tree.nodes_eq]; omega
  have e3 : t.deep + d ≤ 17 := by
    have : most (t.kids.map Tree.deep) ≤ 16 - d := most_le.2 fun m hm => by
      obtain ⟨x, hx, rfl⟩ := List.mem_map.1 hm
      have := h3 x hx
      omega
    rw [Tree.deep_eq, hl]
    simp only [if_true]
    omega
  simp [okT, e1, e2, e3]
theorem okT_kid {t x : Tree} {n d k : Nat} (hl : t.list = true) (hx : t.kids[k]? = some x) (ho : okT x (n + 1 + ((t.kids.take k).map Tree.nodes).sum) (d + 1) = false) : okT t n d = false := by
  cases hq : okT t n d with
  | false => rfl
  | true =>
    obtain ⟨o1, o2, o3⟩ := okT_parts hq
    have hm := List.mem_of_getElem? hx
    have e1 : x.clean = true := by
      rw [Tree.clean_eq, Bool.and_eq_true, List.all_eq_true] at o1
      exact o1.2 x hm
    have e2 : n + 1 + ((t.kids.take k).map Tree.nodes).sum + x.nodes ≤ 512 := by
      rw [Tree.nodes_eq] at o2
      have := sum_take_le (l := t.kids) (k := k + 1) Tree.nodes
      rw [sum_take _ hx] at this
      omega
    have e3 : x.deep + (d + 1) ≤ 17 := by
      rw [Tree.deep_eq, hl] at o3
      simp only [if_true] at o3
      have : x.deep ≤ most (t.kids.map Tree.deep) := most_le.1 (Nat.le_refl _) _ (List.mem_map.2 ⟨x, hm, rfl⟩)
      omega
    rw [okT, e1, decide_eq_true e2, decide_eq_true e3] at ho
    cases ho
theorem form_list {t : Tree} (hl : t.list = true) : t.form.length = 2 + (t.kids.map Tree.form).flatten.length := by
  rw [Tree.form_eq, hl]
  simp only [if_true, List.length_append, List.length_singleton]
  omega
theorem form_atom {t : Tree} (hl : t.list = false) : t.form.length = (if t.hinted then 2 + (textB t.hint).length else 0) + (textB t.data).length := by
  rw [Tree.form_eq, hl, Tree.atomF]
  simp only [Bool.false_eq_true, if_false, List.length_append]
  split <;> simp only [List.length_append, List.length_singleton, List.length_nil] <;> omega
theorem rd_far {g : Nat} {w w' : World} {cs : List Value} {x : Tree} (h : Rep.tree.rd w (fun b => b < g) cs x) (hg : w.grownBy w' (some g)) (hs : g < w.heap.size) : Rep.tree.rd w' (fun b => b < g) cs x :=
  Rep.tree.grown h hg fun b hb => ⟨by omega, by rintro e; injection e; omega⟩
theorem sl_far {α : Type} {r : Rep α} {g : Nat} {w w' : World} {A : Option Addr} {n c : Nat} {x : List α} (h : r.sl w (fun b => b < g) A n c x) (hg : w.grownBy w' (some g)) (hs : g < w.heap.size) : r.sl w' (fun b => b < g) A n c x :=
  Rep.sl_grown h hg fun b hb => ⟨by omega, by rintro e; injection e; omega⟩
theorem grownBy_box {w w' : World} {g : Nat} (cs : Array Value) (t : TypeId) (h : (w.alloc (.cells cs t)).grownBy w' (some g)) : w.grownBy w' (some g) :=
  grownBy_trans (World.grownBy_alloc w _ _) h

set_option maxHeartbeats 2000000 in
set_option maxRecDepth 100000 in
theorem right_c (t : Tree) : ∀ (w : World) (cs : List Value) (g n s d B : Nat), Rep.tree.rd w (fun b => b < g) cs t → w.heap[g]? = some (.cells (cnt n s) 71 (0, 0)) → Tabs B w → B ≤ g → t.wt ≤ 10000000 → n ≤ 512 → s + t.form.length ≤ 1000000000 → 1 ≤ d → d ≤ 17 →
    Calls Tryd.prog 52 #[.pointer (some ⟨g, 0, none⟩), .agg cs.toArray, .int .i64 (d : Nat)] w (RightPost w g t n s d) := by
  refine Tree.ind (P := fun t => ∀ (w : World) (cs : List Value) (g n s d B : Nat), Rep.tree.rd w (fun b => b < g) cs t → w.heap[g]? = some (.cells (cnt n s) 71 (0, 0)) → Tabs B w → B ≤ g → t.wt ≤ 10000000 → n ≤ 512 → s + t.form.length ≤ 1000000000 → 1 ≤ d → d ≤ 17 →
    Calls Tryd.prog 52 #[.pointer (some ⟨g, 0, none⟩), .agg cs.toArray, .int .i64 (d : Nat)] w (RightPost w g t n s d)) (fun t ih => ?_) t
  intro w cs g n s d B h hg hT hBg hw hn hsf hd1 hd17
  obtain ⟨A1, n1, c1, A2, n2, c2, A3, n3, c3, rfl, hp⟩ := Rep.tree_open h
  have hlt := (Array.getElem?_eq_some_iff.1 hg).1
  have IH := Lib.hid ih
  have HW := Lib.hid hw
  have HSF := Lib.hid hsf
  have HP1 := Lib.hid hp.1
  have HP2 := Lib.hid hp.2.1
  have HK := Lib.hid hp.2.2
  have HN := Lib.hid hp.2.2.1
  have HN1 := Lib.hid hp.1.1
  have HN2 := Lib.hid hp.2.1.1
  have hnc := hp.2.2.2.1
  have hcm := hp.2.2.2.2.1
  have hn1 : n1 ≤ 10000000 := by have := t.wt_hint; have := hp.1.1; omega
  have hn2 : n2 ≤ 10000000 := by have := t.wt_data; have := hp.2.1.1; omega
  have hn3 : n3 ≤ 10000000 := by have := t.wt_kids; have := hp.2.2.1; omega
  have HF : Hid (t.fair = if t.list then !t.hinted && (n1 == 0) && (n2 == 0) else (n3 == 0) && (t.hinted || (n1 == 0))) := by
    show _ = _
    rw [Tree.fair, HN.out, HN1.out, HN2.out]
  clear ih hw hp h hsf
  generalize hl : t.list = l at *
  generalize hh : t.hinted = hi at *
  have HL := Lib.hid hl
  have HH := Lib.hid hh
  clear hl hh
  have hsb : s ≤ 1000000000 := by have := HSF.out; omega
  have hgW := box_alloc (box_set (j := 0) hg (.int .i64 ((n : Int) + 1))) (.cells #[.bool l, .bool hi, .slice A1 n1 c1, .slice A2 n2 c2, .slice A3 n3 c3] 25)
  have HB1 := Lib.hid (grownBy_alloc (grownBy_set (j := 0) (World.grownBy.refl w (some g)) (.int .i64 ((n : Int) + 1))) (.cells #[.bool l, .bool hi, .slice A1 n1 c1, .slice A2 n2 c2, .slice A3 n3 c3] 25))
  have hc := boxed hg
  have hk0 : w.cell? ⟨g, 0, none⟩ = some (.int .i64 (n : Int)) := hc 0 _ rfl
  have hk1 : w.cell? ⟨g, 1, none⟩ = some (.int .i64 (s : Int)) := hc 1 _ rfl
  have hf0 := boxed_frozen hg 0
  have hf1 := boxed_frozen hg 1
  clear hc
  have W1 : IntKind.i64.wrap ((n : Int) + 1) = (n : Int) + 1 := IntWalk.i64_in _ (by omega)
  have W2 : IntKind.i64.wrap ((s : Int) + 2) = (s : Int) + 2 := IntWalk.i64_in _ (by omega)
  go_enter Tryd.func52, Tryd.ntmps52
  by_cases hq : 512 < n + 1
  · have dd : decide ((512 : Int) < (n : Int) + 1) = true := decide_eq_true (by omega)
    have HO := Lib.hid (okT_many (t := t) (d := d) hq)
    go_wp2
    go_ret
    exact RightPost.no HO.out HB1.out hgW
  have dd : decide ((512 : Int) < (n : Int) + 1) = false := decide_eq_false (by omega)
  have hq' : n + 1 ≤ 512 := by omega
  have hbx1 : ((w.setCell ⟨g, 0, none⟩ (.int .i64 ((n : Int) + 1))).alloc (.cells #[.bool l, .bool hi, .slice A1 n1 c1, .slice A2 n2 c2, .slice A3 n3 c3] 25)).heap[w.heap.size]? = some (.cells #[.bool l, .bool hi, .slice A1 n1 c1, .slice A2 n2 c2, .slice A3 n3 c3] 25 (0, 0)) := by
    have := box_new (w.setCell ⟨g, 0, none⟩ (.int .i64 ((n : Int) + 1))) #[.bool l, .bool hi, .slice A1 n1 c1, .slice A2 n2 c2, .slice A3 n3 c3] 25
    simpa only [World.size_setCell] using this
  cases l
  · have HFA : Hid (t.form.length = (if t.hinted then 2 + (textB t.hint).length else 0) + (textB t.data).length) := form_atom HL.out
    cases hi
    · go_wp2_with fail
      refine Calls.mono (cbytes_c t.data _ _ _ _ _ s B _ hgW (hT.on (below_of_grown HB1.out hBg (by omega))) HN2.out hn2 (by omega)) ?_
      rintro e w2 ⟨rfl, hG2, hg2⟩
      have HB2 := Lib.hid (grownBy_trans HB1.out hG2)
      have hbx2 := box_grown hbx1 hG2 (by rintro e; injection e; omega)
      have HFL : Hid (t.form.length = (textB t.data).length) := by show _ = _; rw [HFA.out, HH.out]; simp
      have hc := boxed hbx2
      have hc0 := hc 0 _ rfl; have hc1 := hc 1 _ rfl; have hc2 := hc 2 _ rfl; have hc3 := hc 3 _ rfl; have hc4 := hc 4 _ rfl
      clear hc hG2 hgW hbx1 hbx2 hk0 hk1 hf0 hf1
      rcases Nat.eq_zero_or_pos n3 with p3 | p3
      · rcases Nat.eq_zero_or_pos n1 with p1 | p1
        · subst p3 p1
          have HO : Hid (okT t n d = true) := okT_atom HL.out (by rw [HF.out]; simp) (List.eq_nil_of_length_eq_zero HN.out) hq' hd17
          have HNO : Hid (t.nodes = 1) := by show _ = _; rw [Tree.nodes_eq, List.eq_nil_of_length_eq_zero HN.out]; rfl
          go_wp2
          go_ret
          exact RightPost.yes HO.out HB2.out (by rw [HNO.out]) (by rw [HFL.out]) hg2
        · have e1 : ((n1 : Int) == 0) = false := by rw [beq_eq_false_iff_ne]; omega
          have e1b : ¬ n1 = 0 := by omega
          subst p3
          have HO : Hid (okT t n d = false) := okT_unfair (by rw [HF.out]; simp; omega)
          go_wp2
          go_ret
          exact RightPost.no HO.out HB2.out hg2
      · have e3 : ((n3 : Int) == 0) = false := by rw [beq_eq_false_iff_ne]; omega
        have e3b : ¬ n3 = 0 := by omega
        have HO : Hid (okT t n d = false) := okT_unfair (by rw [HF.out]; simp; omega)
        go_wp2
        go_ret
        exact RightPost.no HO.out HB2.out hg2
    · have hgW2 := box_alloc (box_set (j := 1) (box_set (j := 0) hg (.int .i64 ((n : Int) + 1))) (.int .i64 ((s : Int) + 2))) (.cells #[.bool false, .bool true, .slice A1 n1 c1, .slice A2 n2 c2, .slice A3 n3 c3] 25)
      have HB12 := Lib.hid (grownBy_alloc (grownBy_set (j := 1) (grownBy_set (j := 0) (World.grownBy.refl w (some g)) (.int .i64 ((n : Int) + 1))) (.int .i64 ((s : Int) + 2))) (.cells #[.bool false, .bool true, .slice A1 n1 c1, .slice A2 n2 c2, .slice A3 n3 c3] 25))
      have hbx12 : (((w.setCell ⟨g, 0, none⟩ (.int .i64 ((n : Int) + 1))).setCell ⟨g, 1, none⟩ (.int .i64 ((s : Int) + 2))).alloc (.cells #[.bool false, .bool true, .slice A1 n1 c1, .slice A2 n2 c2, .slice A3 n3 c3] 25)).heap[w.heap.size]? = some (.cells #[.bool false, .bool true, .slice A1 n1 c1, .slice A2 n2 c2, .slice A3 n3 c3] 25 (0, 0)) := by
        have := box_new ((w.setCell ⟨g, 0, none⟩ (.int .i64 ((n : Int) + 1))).setCell ⟨g, 1, none⟩ (.int .i64 ((s : Int) + 2))) #[.bool false, .bool true, .slice A1 n1 c1, .slice A2 n2 c2, .slice A3 n3 c3] 25
        simpa only [World.size_setCell] using this
      have HTH : Hid ((textB t.hint).length ≤ 10000009) := textB_len (by have := HN1.out; omega) (by omega)
      go_wp2_with fail
      refine Calls.mono (cbytes_c t.hint _ _ _ _ _ (s + 2) B _ hgW2 (hT.on (below_of_grown HB12.out hBg (by omega))) HN1.out hn1 (by omega)) ?_
      rintro e w2 ⟨rfl, hG2, hg2⟩
      have HB2 := Lib.hid (grownBy_trans HB12.out hG2)
      have hbx2 := box_grown hbx12 hG2 (by rintro e; injection e; omega)
      have hc := boxed hbx2
      have hc0 := hc 0 _ rfl; have hc1 := hc 1 _ rfl; have hc2 := hc 2 _ rfl; have hc3 := hc 3 _ rfl; have hc4 := hc 4 _ rfl
      clear hc hG2 hgW hgW2 hbx12 hbx1 hk0 hk1 hf0 hf1
      go_wp2_with fail
      refine Calls.mono (cbytes_c t.data _ _ _ _ _ (s + 2 + (textB t.hint).length) B _ hg2 (hT.on (below_of_grown HB2.out hBg (by omega))) HN2.out hn2 (by have := HTH.out; omega)) ?_
      rintro e w3 ⟨rfl, hG3, hg3⟩
      have HB3 := Lib.hid (grownBy_trans HB2.out hG3)
      have hbx3 := box_grown hbx2 hG3 (by rintro e; injection e; omega)
      have HFL : Hid (t.form.length = 2 + (textB t.hint).length + (textB t.data).length) := by show _ = _; rw [HFA.out, HH.out]; simp
      clear hG3 hbx2 hc0 hc1 hc2 hc3 hc4 hg2
      have hc0 := (boxed hbx3) 0 _ rfl; have hc1 := (boxed hbx3) 1 _ rfl; have hc2 := (boxed hbx3) 2 _ rfl; have hc3 := (boxed hbx3) 3 _ rfl; have hc4 := (boxed hbx3) 4 _ rfl
      rcases Nat.eq_zero_or_pos n3 with p3 | p3
      · subst p3
        have HO : Hid (okT t n d = true) := okT_atom HL.out (by rw [HF.out]; simp) (List.eq_nil_of_length_eq_zero HN.out) hq' hd17
        have HNO : Hid (t.nodes = 1) := by show _ = _; rw [Tree.nodes_eq, List.eq_nil_of_length_eq_zero HN.out]; rfl
        go_wp2
        go_ret
        exact RightPost.yes HO.out HB3.out (by rw [HNO.out]) (by rw [HFL.out]; omega) hg3
      · have e3 : ((n3 : Int) == 0) = false := by rw [beq_eq_false_iff_ne]; omega
        have e3b : ¬ n3 = 0 := by omega
        have HO : Hid (okT t n d = false) := okT_unfair (by rw [HF.out]; simp; omega)
        go_wp2
        go_ret
        exact RightPost.no HO.out HB3.out hg3
  · have HFA : Hid (t.form.length = 2 + (t.kids.map Tree.form).flatten.length) := form_list HL.out
    by_cases hd16 : 16 < d
    · have d16 : decide ((16 : Int) < (d : Int)) = true := decide_eq_true (by omega)
      have HO := Lib.hid (okT_deep (t := t) (n := n) HL.out hd16)
      go_wp2
      go_ret
      exact RightPost.no HO.out HB1.out hgW
    have d16 : decide ((16 : Int) < (d : Int)) = false := decide_eq_false (by omega)
    cases hi
    case true =>
      have HO : Hid (okT t n d = false) := okT_unfair (by rw [HF.out]; simp)
      go_wp2
      go_ret
      exact RightPost.no HO.out HB1.out hgW
    have W12 : IntKind.i64.wrap ((n1 : Int) + (n2 : Int)) = (n1 : Int) + (n2 : Int) := IntWalk.i64_in _ (by omega)
    by_cases h12 : 0 < n1 + n2
    · have d12 : decide ((0 : Int) < (n1 : Int) + (n2 : Int)) = true := decide_eq_true (by omega)
      have HO : Hid (okT t n d = false) := okT_unfair (by rw [HF.out]; simp; omega)
      go_wp2
      go_ret
      exact RightPost.no HO.out HB1.out hgW
    have d12 : decide ((0 : Int) < (n1 : Int) + (n2 : Int)) = false := decide_eq_false (by omega)
    obtain ⟨rfl, rfl⟩ : n1 = 0 ∧ n2 = 0 := by omega
    have HFT : Hid (t.fair = true) := by show _ = _; rw [HF.out]; simp
    have hgW2 := box_alloc (box_set (j := 1) (box_set (j := 0) hg (.int .i64 ((n : Int) + 1))) (.int .i64 ((s : Int) + 2))) (.cells #[.bool true, .bool false, .slice A1 0 c1, .slice A2 0 c2, .slice A3 n3 c3] 25)
    have HB12 := Lib.hid (grownBy_alloc (grownBy_set (j := 1) (grownBy_set (j := 0) (World.grownBy.refl w (some g)) (.int .i64 ((n : Int) + 1))) (.int .i64 ((s : Int) + 2))) (.cells #[.bool true, .bool false, .slice A1 0 c1, .slice A2 0 c2, .slice A3 n3 c3] 25))
    have hbx12 : (((w.setCell ⟨g, 0, none⟩ (.int .i64 ((n : Int) + 1))).setCell ⟨g, 1, none⟩ (.int .i64 ((s : Int) + 2))).alloc (.cells #[.bool true, .bool false, .slice A1 0 c1, .slice A2 0 c2, .slice A3 n3 c3] 25)).heap[w.heap.size]? = some (.cells #[.bool true, .bool false, .slice A1 0 c1, .slice A2 0 c2, .slice A3 n3 c3] 25 (0, 0)) := by
      have := box_new ((w.setCell ⟨g, 0, none⟩ (.int .i64 ((n : Int) + 1))).setCell ⟨g, 1, none⟩ (.int .i64 ((s : Int) + 2))) #[.bool true, .bool false, .slice A1 0 c1, .slice A2 0 c2, .slice A3 n3 c3] 25
      simpa only [World.size_setCell] using this
    clear hgW hbx1
    go_wp2
    go_loopw [81] (fun ix wr => ∃ (k m q : Nat), k ≤ n3 ∧ ix = .int .i64 (k : Nat) ∧ Hid (CInv t n d k) ∧ Hid (m = n + 1 + ((t.kids.take k).map Tree.nodes).sum) ∧ Hid (q = s + 2 + ((t.kids.take k).map Tree.form).flatten.length) ∧ Hid (w.grownBy wr (some g)) ∧ wr.heap[g]? = some (.cells (cnt (m : Int) (q : Int)) 71 (0, 0)) ∧
      wr.heap[w.heap.size]? = some (.cells #[.bool true, .bool false, .slice A1 0 c1, .slice A2 0 c2, .slice A3 n3 c3] 25 (0, 0))) (fun ix _ => n3 - (intOf ix).toNat)
    case atStart => exact ⟨0, n + 1, s + 2, by omega, rfl, CInv.zero hq', by show _ = _; simp, by show _ = _; simp, HB12.out, hgW2, hbx12⟩
    case round =>
      obtain ⟨k, m, q, hk, rfl, HI, HM, HQ, HB, hgr, hbx⟩ := hrel
      clear hk0 hk1 hf0 hf1 hgW2 hbx12
      have hc0 := (boxed hbx) 0 _ rfl; have hc1 := (boxed hbx) 1 _ rfl; have hc2 := (boxed hbx) 2 _ rfl; have hc3 := (boxed hbx) 3 _ rfl; have hc4 := (boxed hbx) 4 _ rfl
      by_cases hlt2 : k < n3
      · have hsr := sl_far HK.out HB.out hlt
        obtain ⟨b, o, x, E1, i1, f1, E2, i2, f2, E3, i3, f3, rfl, hb, hx, hrd, k0, k1, k2, k3, k4⟩ := kid_at hsr hlt2
        have hmem := List.mem_of_getElem? hx
        have HX := Lib.hid hx
        have HRD := Lib.hid hrd
        clear hx hrd hsr
        have hxw : x.wt ≤ 10000000 := by have := Tree.wt_kid hmem; have := HW.out; omega
        have hm5 : m ≤ 512 := by have := HI.out.2.1; have := HM.out; omega
        have HQF : Hid (q + x.form.length ≤ 1000000000) := by
          show _ ≤ _
          have h1 := flat_take_le (l := t.kids) (k + 1) Tree.form
          rw [flat_take Tree.form HX.out, List.length_append] at h1
          have := HSF.out
          have := HFA.out
          have := HQ.out
          omega
        have Wd : IntKind.i64.wrap ((d : Int) + 1) = ((d + 1 : Nat) : Int) := (IntWalk.i64_in _ (by omega)).trans (by omega)
        have hltr : g < wr.heap.size := (Array.getElem?_eq_some_iff.1 hgr).1
        have HBA := Lib.hid (grownBy_alloc HB.out (.cells #[.bool x.list, .bool x.hinted, .slice E1 i1 f1, .slice E2 i2 f2, .slice E3 i3 f3] 25))
        have HRD2 := Lib.hid (Rep.tree.grown HRD.out (World.grownBy_alloc wr (.cells #[.bool x.list, .bool x.hinted, .slice E1 i1 f1, .slice E2 i2 f2, .slice E3 i3 f3] 25) none) fun b hb => ⟨by omega, by simp⟩)
        go_wp2_with fail
        refine Calls.mono (IH.out x hmem _ _ g m q (d + 1) B HRD2.out (box_alloc hgr _) (hT.on (below_of_grown HBA.out hBg (by omega))) hBg hxw hm5 HQF.out (by omega) (by omega)) ?_
        rintro e w5 ⟨hG5, hr5⟩
        have HB5 := Lib.hid (grownBy_trans HBA.out hG5)
        have hbx5 := box_grown (box_alloc hbx _) hG5 (by rintro e; injection e; omega)
        clear hG5 hbx hgr k0 k1 k2 k3 k4 HRD HRD2 hc0 hc1 hc2 hc3 hc4
        rcases hr5 with ⟨ho, rfl, hg5⟩ | ⟨ho, rfl, n1', s1', hg5⟩
        · have HI2 := Lib.hid (HI.out.step HX.out (by rw [← HM.out]; exact ho))
          have HM2 : Hid (m + x.nodes = n + 1 + ((t.kids.take (k + 1)).map Tree.nodes).sum) := by show _ = _; rw [sum_take Tree.nodes HX.out, HM.out]; omega
          have HQ2 : Hid (q + x.form.length = s + 2 + ((t.kids.take (k + 1)).map Tree.form).flatten.length) := by show _ = _; rw [flat_take Tree.form HX.out, List.length_append, HQ.out]; omega
          clear ho
          go_wp2
          go_roundw
          case rel => exact ⟨k + 1, m + x.nodes, q + x.form.length, by omega, by go_num, HI2, HM2, HQ2, HB5.out, hg5, hbx5⟩
          case measure => simp [intOf] <;> omega
        · have HO := Lib.hid (okT_kid (t := t) (n := n) HL.out HX.out (by rw [← HM.out]; exact ho))
          clear ho
          go_wp2
          go_ret
          exact RightPost.no HO.out HB5.out hg5
      · have HO : Hid (okT t n d = true) := HI.out.done (by have := HN.out; omega) HL.out HFT.out (by omega)
        have HNO : Hid (m = n + t.nodes) := by
          show _ = _
          rw [HM.out, Tree.nodes_eq, List.take_of_length_le (by have := HN.out; omega)]
          omega
        have HFO : Hid (q = s + t.form.length) := by
          show _ = _
          rw [HQ.out, HFA.out, List.take_of_length_le (by have := HN.out; omega)]
          omega
        go_wp2
        go_ret
        exact RightPost.yes HO.out HB.out (by rw [HNO.out]) (by rw [HFO.out]) hgr
end Go.Proofs.YtdakeodebgggfaaDoor
