/- The program: may a value be; are two the same. -/
import Derived.Test.YtdakeodebgggfaaDoorTl
namespace Go.Proofs.YtdakeodebgggfaaDoor
open Go.RowKit
set_option linter.unusedVariables false

theorem Tabs.next {w w1 : World} (h : Tabs w.heap.size w) (hb : Below w.heap.size w w1) : Tabs w1.heap.size w1 := (h.on hb).up hb.size
theorem may_ok (t : Tree) : t.may = (okT t 0 1 && decide (t.form.length ≤ 4096)) := by
  rw [Tree.may, okT, Nat.zero_add]
  congr 2
  rw [decide_eq_decide]
  omega
theorem box_new1 {w : World} {o : Obj} {cs : Array Value} {t : TypeId} : ((w.alloc o).alloc (.cells cs t)).heap[w.heap.size + 1]? = some (.cells cs t (0, 0)) := by
  have := box_new (w.alloc o) cs t
  simpa only [World.size_alloc] using this

set_option maxHeartbeats 1000000 in
set_option maxRecDepth 100000 in
theorem sxmay_c (t : Tree) (w : World) (cs : List Value) (h : Rep.tree.rd w (fun b => b < w.heap.size) cs t) (hT : Tabs w.heap.size w) (hw : t.wt ≤ 10000000) :
    Calls Tryd.prog 37 #[.agg cs.toArray] w (Tells w (.bool t.may)) := by
  have HR := Lib.hid h
  obtain ⟨A1, n1, c1, A2, n2, c2, A3, n3, c3, rfl, hp⟩ := Rep.tree_open h
  have HW := Lib.hid hw
  have HFL : Hid (0 + t.form.length ≤ 1000000000) := by have := t.form_wt hw; show _ ≤ _; omega
  clear h hp hw
  have hbx0 := box_alloc (box_new w #[.bool t.list, .bool t.hinted, .slice A1 n1 c1, .slice A2 n2 c2, .slice A3 n3 c3] 25) (.cells (cnt 0 0) 71)
  have hgx0 := box_new1 (w := w) (o := .cells #[.bool t.list, .bool t.hinted, .slice A1 n1 c1, .slice A2 n2 c2, .slice A3 n3 c3] 25) (cs := cnt 0 0) (t := 71)
  have HB0 := Lib.hid ((Below.alloc (Below.refl _ w) (Nat.le_refl _) (.cells #[.bool t.list, .bool t.hinted, .slice A1 n1 c1, .slice A2 n2 c2, .slice A3 n3 c3] 25)).alloc (by simp only [World.size_alloc]; omega) (.cells (cnt 0 0) 71))
  have HM := Lib.hid (may_ok t)
  have HRD := Lib.hid (Rep.tree.more (S' := fun b => b < w.heap.size + 1) (Rep.tree.below HR.out HB0.out fun _ h => h) fun b hb => by omega)
  go_enter Tryd.func37, Tryd.ntmps37
  go_wp2_with fail
  refine Calls.mono (right_c t _ _ (w.heap.size + 1) 0 0 1 w.heap.size HRD.out hgx0 (hT.on HB0.out) (by omega) HW.out (by omega) HFL.out (by omega) (by omega)) ?_
  rintro e w1 ⟨hG1, hr1⟩
  have HB1 := Lib.hid (HB0.out.trans (below_of_grown hG1 (by omega) (by simp only [World.size_alloc]; omega)))
  clear hG1 hbx0 hgx0
  rcases hr1 with ⟨ho, rfl, hg1⟩ | ⟨ho, rfl, n1', s1', hg1⟩
  · have HO := Lib.hid ho
    have d : decide ((t.form.length : Int) ≤ 4096) = decide (t.form.length ≤ 4096) := by rw [decide_eq_decide]; omega
    have HE : Hid (decide ((t.form.length : Int) ≤ 4096) = t.may) := by show _ = _; rw [HM.out, HO.out, d]; rfl
    have e0 : ((0 + t.form.length : Nat) : Int) = (t.form.length : Int) := by omega
    rw [e0] at hg1
    generalize (t.form.length : Int) = m at *
    have hc : w1.cell? ⟨w.heap.size + 1, 1, none⟩ = some (.int .i64 m) := boxed hg1 1 _ rfl
    clear hg1 ho d e0
    go_wp2
    go_ret
    exact ⟨by rw [← HE.out]; rfl, HB1.out⟩
  · have HE : Hid (t.may = false) := by show _ = _; rw [HM.out, ho]; rfl
    clear hg1 ho
    go_wp2
    go_ret
    exact ⟨by rw [HE.out]; rfl, HB1.out⟩

/-- Are two rows of values the same? -/
noncomputable def sameL (l m : List Tree) : Bool := @decide (l = m) (Classical.propDecidable _)
theorem sameL_true {l m : List Tree} : sameL l m = true ↔ l = m := by
  unfold sameL
  exact @decide_eq_true_iff _ (Classical.propDecidable _)
theorem sameL_false {l m : List Tree} (h : l ≠ m) : sameL l m = false := by
  cases hq : sameL l m
  · rfl
  · exact absurd (sameL_true.1 hq) h
def SameC (x : Tree) : Prop := ∀ (u : Tree) (w : World) (cs ds : List Value), Rep.tree.rd w (fun b => b < w.heap.size) cs x → Rep.tree.rd w (fun b => b < w.heap.size) ds u →
    Calls Tryd.prog 40 #[.agg cs.toArray, .agg ds.toArray] w (Tells w (.bool (x.same u)))
set_option maxHeartbeats 2000000 in
set_option maxRecDepth 100000 in
theorem eqfunc_c (ks ms : List Tree) (A B : Option Addr) (n c m d : Nat) (w : World) (hk : Rep.tree.sl w (fun b => b < w.heap.size) A n c ks) (hm : Rep.tree.sl w (fun b => b < w.heap.size) B m d ms) (ih : ∀ x ∈ ks, SameC x) :
    Calls Tryd.prog 54 #[.slice A n c, .slice B m d, .func (.func 40) #[] #[]] w (Tells w (.bool (sameL ks ms))) := by
  have HK := Lib.hid hk
  have HM := Lib.hid hm
  have HN := Lib.hid hk.1
  have HN' := Lib.hid hm.1
  have IH := Lib.hid ih
  have hnc := hk.2.1
  have hcm := hk.2.2.1
  have hmd := hm.2.1
  have hdm := hm.2.2.1
  have eg := enters_of Tryd.func40 (by kernel_rfl) rfl
  have HB0 := Lib.hid (Below.refl w.heap.size w)
  clear hk hm ih
  go_enter Tryd.func54, Tryd.ntmps54
  by_cases p : n = m
  case neg =>
    have p4 : ((n : Int) != (m : Int)) = true := by rw [bne_iff_ne]; omega
    have HE : Hid (sameL ks ms = false) := sameL_false fun e => p (by rw [← HN.out, ← HN'.out, e])
    go_wp2
    go_ret
    exact ⟨by rw [HE.out]; rfl, HB0.out⟩
  subst p
  go_wp2
  go_loopw [17] (fun ix wr => ∃ (k : Nat), k ≤ n ∧ ix = .int .i64 (k : Nat) ∧ Hid (ks.take k = ms.take k) ∧ Hid (Below w.heap.size w wr)) (fun ix _ => n - (intOf ix).toNat)
  case atStart => exact ⟨0, by omega, rfl, by show _ = _; simp, HB0.out⟩
  case round =>
    obtain ⟨k, hk, rfl, HS, HB⟩ := hrel
    by_cases hlt : k < n
    · obtain ⟨b, o, x, E1, i1, f1, E2, i2, f2, E3, i3, f3, rfl, hb, hx, hrd, k0, k1, k2, k3, k4⟩ := kid_at (sl_later HK.out HB.out) hlt
      obtain ⟨b', o', x', E1', i1', f1', E2', i2', f2', E3', i3', f3', rfl, hb', hx', hrd', k0', k1', k2', k3', k4'⟩ := kid_at (sl_later HM.out HB.out) hlt
      have hmem := List.mem_of_getElem? hx
      have HX := Lib.hid hx
      have HX' := Lib.hid hx'
      have hBa := ((Below.alloc (Below.refl _ wr) (Nat.le_refl _) (.cells #[.bool x.list, .bool x.hinted, .slice E1 i1 f1, .slice E2 i2 f2, .slice E3 i3 f3] 25)).alloc (by simp only [World.size_alloc]; omega) (.cells #[.bool x'.list, .bool x'.hinted, .slice E1' i1' f1', .slice E2' i2' f2', .slice E3' i3' f3'] 25))
      have HRD := Lib.hid (rd_later hrd hBa)
      have HRD' := Lib.hid (rd_later hrd' hBa)
      have HBA := Lib.hid (below_then HB.out hBa)
      clear hx hx' hrd hrd' hBa
      go_wp2_with fail
      refine Calls.mono (IH.out x hmem x' _ _ _ HRD.out HRD'.out) ?_
      rintro e w2 ⟨rfl, hB2⟩
      have HB2 := Lib.hid (below_then HBA.out hB2)
      clear hB2 k0 k1 k2 k3 k4 k0' k1' k2' k3' k4'
      cases hq : x.same x' with
      | false =>
        have HE : Hid (sameL ks ms = false) := sameL_false fun e => by
          have h1 := HX.out
          rw [e, HX'.out] at h1
          injection h1 with h1
          rw [h1, Tree.same_refl] at hq
          cases hq
        clear hq
        go_wp2
        go_ret
        exact ⟨by rw [HE.out]; rfl, HB2.out⟩
      | true =>
        have HE := Lib.hid (take_snoc_eq HS.out HX.out HX'.out (Tree.same_true.1 hq))
        clear hq
        go_wp2
        go_roundw
        case rel => exact ⟨k + 1, by omega, by go_num, HE, HB2.out⟩
        case measure => simp [intOf] <;> omega
    · have HE : Hid (sameL ks ms = true) := by
        refine sameL_true.2 ?_
        have h1 := HS.out
        rw [List.take_of_length_le (by have := HN.out; omega), List.take_of_length_le (by have := HN'.out; omega)] at h1
        exact h1
      go_wp2
      go_ret
      exact ⟨by rw [HE.out]; rfl, HB.out⟩
end Go.Proofs.YtdakeodebgggfaaDoor
