/- The reference's form of a value; may it be. -/
import Derived.Test.YtdakeodebgggfaaDoorTh
namespace Go.Proofs.YtdakeodebgggfaaDoor
open Go.RowKit
set_option linter.unusedVariables false

theorem flat_take {l : List Tree} {k : Nat} {x : Tree} (f : Tree → List UInt8) (h : l[k]? = some x) : ((l.take (k + 1)).map f).flatten = ((l.take k).map f).flatten ++ f x := by
  rw [List.take_add_one, h]
  simp
theorem flat_take_le {l : List Tree} (k : Nat) (f : Tree → List UInt8) : ((l.take k).map f).flatten.length ≤ (l.map f).flatten.length := by
  have : l = l.take k ++ l.drop k := (List.take_append_drop k l).symm
  rw [this]
  simp only [List.map_append, List.flatten_append, List.length_append]
  have h2 : (l.take k ++ l.drop k).take k = l.take k := by rw [List.take_append_drop]
  rw [h2]
  omega
theorem Tree.form_len {t : Tree} (h : t.wt ≤ 10000000) : t.form.length ≤ 210000000 := by
  have := t.form_wt h
  omega
theorem sl_lit1' {w : World} {x : UInt8} {k : Int} {g : Nat} (hk : k = (x.toNat : Int)) (t : TypeId) (hg : g = w.heap.size) : Rep.u8.sl (w.alloc (.cells #[.int .u8 k] t)) (fun _ => True) (some ⟨g, 0, none⟩) 1 1 [x] := by
  subst hg
  exact sl_lit1 hk t
theorem own_empty {w : World} {e : TypeId} {base : Nat} (hb : base ≤ w.heap.size) : OwnB (w.alloc (.cells #[] e)) base (.slice (some ⟨w.heap.size, 0, none⟩) 0 0) [] :=
  .inr ⟨w.heap.size, 0, rfl, hb, by simp only [World.size_alloc]; omega, Nat.le_refl _, by decide, fun j u h => by simp [bl] at h, fun j h => by omega⟩
theorem box_own {w w' : World} {g base : Nat} {v : Value} {x : Obj} {xs : List UInt8} (h : w.heap[g]? = some x) (ho : OwnB w base v xs) (hg : w.grownBy w' v.ownBlock) (hb : g < base) : w'.heap[g]? = some x :=
  box_grown h hg fun e => by have := (ho.lt g e.symm).1; omega

set_option maxHeartbeats 2000000 in
set_option maxRecDepth 100000 in
theorem form_c (t : Tree) : ∀ (w : World) (cs : List Value), Rep.tree.rd w (fun b => b < w.heap.size) cs t → t.wt ≤ 10000000 →
    Calls Tryd.prog 46 #[.agg cs.toArray] w (BytesPost w t.form) := by
  refine Tree.ind (P := fun t => ∀ (w : World) (cs : List Value), Rep.tree.rd w (fun b => b < w.heap.size) cs t → t.wt ≤ 10000000 → Calls Tryd.prog 46 #[.agg cs.toArray] w (BytesPost w t.form)) (fun t ih => ?_) t
  intro w cs h hw
  obtain ⟨A1, n1, c1, A2, n2, c2, A3, n3, c3, rfl, hp⟩ := Rep.tree_open h
  have HK := Lib.hid hp.2.2
  have HN := Lib.hid hp.2.2.1
  have HH1 := Lib.hid hp.1
  have HD1 := Lib.hid hp.2.1
  have hnc := hp.2.2.2.1
  have hcm := hp.2.2.2.2.1
  have IH := Lib.hid ih
  have HW := Lib.hid hw
  have HFL := Lib.hid (Tree.form_len hw)
  have hn1 : n1 ≤ 10000000 := by have := t.wt_hint; have := hp.1.1; omega
  have hn2 : n2 ≤ 10000000 := by have := t.wt_data; have := hp.2.1.1; omega
  clear ih h hp hw
  generalize hl : t.list = l at *
  generalize hh : t.hinted = hi at *
  have HL := Lib.hid hl
  have HI := Lib.hid hh
  clear hl hh
  have hbx0 := box_alloc (box_new w #[.bool l, .bool hi, .slice A1 n1 c1, .slice A2 n2 c2, .slice A3 n3 c3] 25) (.cells #[] 5)
  have HB0 : Hid (Below w.heap.size w ((w.alloc (.cells #[.bool l, .bool hi, .slice A1 n1 c1, .slice A2 n2 c2, .slice A3 n3 c3] 25)).alloc (.cells #[] 5))) := (Below.alloc (Below.refl _ w) (Nat.le_refl _) _).alloc (by simp only [World.size_alloc]; omega) _
  have HO0 : Hid (OwnB ((w.alloc (.cells #[.bool l, .bool hi, .slice A1 n1 c1, .slice A2 n2 c2, .slice A3 n3 c3] 25)).alloc (.cells #[] 5)) (w.heap.size + 1) (.slice (some ⟨w.heap.size + 1, 0, none⟩) 0 0) []) := by
    refine Lib.hid ?_
    have := own_empty (w := w.alloc (.cells #[.bool l, .bool hi, .slice A1 n1 c1, .slice A2 n2 c2, .slice A3 n3 c3] 25)) (e := 5) (base := w.heap.size + 1) (by simp only [World.size_alloc]; omega)
    simpa only [World.size_alloc] using this
  go_enter Tryd.func46, Tryd.ntmps46
  cases l
  · have HF : Hid (t.form = (if hi then [91] ++ textB t.hint ++ [93] else []) ++ textB t.data) := by
      show _ = _
      rw [Tree.form_eq, HL.out, Tree.atomF, HI.out]
      rfl
    have HTH : Hid ((textB t.hint).length ≤ 10000009) := textB_len (by have := HH1.out.1; omega) (by omega)
    have HTD : Hid ((textB t.data).length ≤ 10000009) := textB_len (by have := HD1.out.1; omega) (by omega)
    cases hi
    · go_wp2_with fail
      refine Calls.mono (textref_c t.data _ _ _ _ (sl_later HD1.out HB0.out) (by omega)) ?_
      rintro e w1 ⟨B1, d1, rfl, hs1, hB1⟩
      have ho1 := HO0.out.later hB1
      have hB1' := below_then HB0.out hB1
      have HE : Hid ([] ++ textB t.data = t.form) := by show _ = _; rw [HF.out]; rfl
      have hz1 : w.heap.size + 1 ≤ w1.heap.size := Nat.le_trans (by simp only [World.size_alloc]; omega) hB1.size
      generalize textB t.data = D at *
      clear hB1
      go_wp2_with (at_builtin; refine halt ?_)
      refine go_on (wpList_appB rfl TB _ _ rfl (by rfl) ho1 (by rfl) hs1 (by have := HTD.out; simp; omega) hz1 ?_)
      intro v2 w2 ho2 hg2
      have hB2 := below_own hB1' ho1 hg2 (by omega)
      rw [HE.out] at ho2
      obtain ⟨A4, c4, rfl, hs4⟩ := ho2.sl_all
      clear ho2 hg2 ho1 hs1
      go_wp2
      go_ret
      exact ⟨A4, c4, rfl, hs4, hB2⟩
    · go_wp2_with (at_builtin; refine halt ?_)
      refine go_on (wpList_appB rfl TB _ _ rfl (by rfl) (HO0.out.alloc _) (by rfl) (sl_lit1' (x := 91) rfl _ (by simp only [World.size_alloc])) (by simp) (by simp only [World.size_alloc]; omega) ?_)
      intro v1 w1 ho1 hg1
      have hB1 := below_own (HB0.out.alloc HB0.out.size _) (HO0.out.alloc _) hg1 (by omega)
      have hbx1 := box_own (box_alloc hbx0 _) (HO0.out.alloc _) hg1 (by omega)
      have hz1 : w.heap.size + 1 ≤ w1.heap.size := Nat.le_trans (by simp only [World.size_alloc]; omega) hg1.size
      have hc := boxed hbx1
      have hc0 := hc 0 _ rfl; have hc1 := hc 1 _ rfl; have hc2 := hc 2 _ rfl; have hc3 := hc 3 _ rfl; have hc4 := hc 4 _ rfl
      clear hc hg1
      go_wp2_with fail
      refine Calls.mono (textref_c t.hint _ _ _ _ (sl_later HH1.out hB1) (by omega)) ?_
      rintro e w2 ⟨B2, d2, rfl, hs2, hB2⟩
      have ho2 := ho1.later hB2
      have hbx2 := box_below hbx1 hB2 (Array.getElem?_eq_some_iff.1 hbx1).1
      have hB2' := below_then hB1 hB2
      have hz2 : w.heap.size + 1 ≤ w2.heap.size := Nat.le_trans hz1 hB2.size
      clear hB1 hB2 hbx1 ho1 hc0 hc1 hc2 hc3 hc4
      have HE0 : Hid (t.form = [] ++ [91] ++ textB t.hint ++ [93] ++ textB t.data) := by show _ = _; rw [HF.out]; rfl
      generalize textB t.hint = H at *
      go_wp2_with (at_builtin; refine halt ?_)
      refine go_on (wpList_appB rfl TB _ _ rfl (by rfl) ho2 (by rfl) hs2 (by have := HTH.out; simp; omega) hz2 ?_)
      intro v3 w3 ho3 hg3
      have hB3 := below_own hB2' ho2 hg3 (by omega)
      have hbx3 := box_own hbx2 ho2 hg3 (by omega)
      have hz3 : w.heap.size + 1 ≤ w3.heap.size := Nat.le_trans hz2 hg3.size
      clear hB2' ho2 hg3 hs2 hbx2 hz2
      go_wp2_with (at_builtin; refine halt ?_)
      refine go_on (wpList_appB rfl TB _ _ rfl (by rfl) (ho3.alloc _) (by rfl) (sl_lit1 (x := 93) rfl _) (by have := HTH.out; simp; omega) (by simp only [World.size_alloc]; omega) ?_)
      intro v4 w4 ho4 hg4
      have hB4 := below_own (hB3.alloc hB3.size _) (ho3.alloc _) hg4 (by omega)
      have hbx4 := box_own (box_alloc hbx3 _) (ho3.alloc _) hg4 (by omega)
      have hz4 : w.heap.size + 1 ≤ w4.heap.size := Nat.le_trans (by simp only [World.size_alloc]; omega) hg4.size
      have hc := boxed hbx4
      have hc0 := hc 0 _ rfl; have hc1 := hc 1 _ rfl; have hc2 := hc 2 _ rfl; have hc3 := hc 3 _ rfl; have hc4 := hc 4 _ rfl
      clear hc hg4 hB3 hbx3 ho3 hbx4
      go_wp2_with fail
      refine Calls.mono (textref_c t.data _ _ _ _ (sl_later HD1.out hB4) (by omega)) ?_
      rintro e w5 ⟨B5, d5, rfl, hs5, hB5⟩
      have ho5 := ho4.later hB5
      have hB5' := below_then hB4 hB5
      have hz5 : w.heap.size + 1 ≤ w5.heap.size := Nat.le_trans hz4 hB5.size
      clear hB4 hB5 ho4 hc0 hc1 hc2 hc3 hc4
      generalize textB t.data = D at *
      go_wp2_with (at_builtin; refine halt ?_)
      refine go_on (wpList_appB rfl TB _ _ rfl (by rfl) ho5 (by rfl) hs5 (by have := HTD.out; have := HTH.out; simp; omega) hz5 ?_)
      intro v6 w6 ho6 hg6
      have hB6 := below_own hB5' ho5 hg6 (by omega)
      rw [← HE0.out] at ho6
      obtain ⟨A4, c4, rfl, hs4⟩ := ho6.sl_all
      clear ho6 hg6 ho5 hs5
      go_wp2
      go_ret
      exact ⟨A4, c4, rfl, hs4, hB6⟩
  · have HF : Hid (t.form = [] ++ [40] ++ (t.kids.map Tree.form).flatten ++ [41]) := by
      show _ = _
      rw [Tree.form_eq, HL.out]
      rfl
    go_wp2_with (at_builtin; refine halt ?_)
    refine go_on (wpList_appB rfl TB _ _ rfl (by rfl) (HO0.out.alloc _) (by rfl) (sl_lit1' (x := 40) rfl _ (by simp only [World.size_alloc])) (by simp) (by simp only [World.size_alloc]; omega) ?_)
    intro v1 w1 ho1 hg1
    have hB1 := below_own (HB0.out.alloc HB0.out.size _) (HO0.out.alloc _) hg1 (by omega)
    have hbx1 := box_own (box_alloc hbx0 _) (HO0.out.alloc _) hg1 (by omega)
    have hc := boxed hbx1
    have hc0 := hc 0 _ rfl; have hc1 := hc 1 _ rfl; have hc2 := hc 2 _ rfl; have hc3 := hc 3 _ rfl; have hc4 := hc 4 _ rfl
    clear hc hg1
    go_wp2
    go_loopw [3, 14] (fun vx ix wr => ∃ (k : Nat), k ≤ n3 ∧ ix = .int .i64 (k : Nat) ∧ OwnB wr (w.heap.size + 1) vx ([] ++ [40] ++ ((t.kids.take k).map Tree.form).flatten) ∧ wr.heap[w.heap.size]? = some (.cells #[.bool true, .bool hi, .slice A1 n1 c1, .slice A2 n2 c2, .slice A3 n3 c3] 25 (0, 0)) ∧ Below w.heap.size w wr) (fun _ ix _ => n3 - (intOf ix).toNat)
    case atStart => exact ⟨0, by omega, rfl, by simpa using ho1, hbx1, hB1⟩
    case round =>
      obtain ⟨k, hk, rfl, ho, hbx, hB⟩ := hrel
      have hc := boxed hbx
      have hc0 := hc 0 _ rfl; have hc1 := hc 1 _ rfl; have hc2 := hc 2 _ rfl; have hc3 := hc 3 _ rfl; have hc4 := hc 4 _ rfl
      have hz : w.heap.size + 1 ≤ wr.heap.size := (Array.getElem?_eq_some_iff.1 hbx).1
      by_cases hlt : k < n3
      · obtain ⟨b, o, x, B1, m1, d1, B2, m2, d2, B3, m3, d3, rfl, hb, hx, hrd, k0, k1, k2, k3, k4⟩ := kid_at (sl_later HK.out hB) hlt
        have hmem := List.mem_of_getElem? hx
        have HX : Hid ([] ++ [40] ++ ((t.kids.take k).map Tree.form).flatten ++ x.form = [] ++ [40] ++ ((t.kids.take (k + 1)).map Tree.form).flatten) := by show _ = _; rw [flat_take Tree.form hx, List.append_assoc _ _ x.form]
        have hxw : x.wt ≤ 10000000 := by have := Tree.wt_kid hmem; have := HW.out; omega
        have HXL : Hid (([] ++ [40] ++ ((t.kids.take k).map Tree.form).flatten).length ≤ 210000001 ∧ x.form.length ≤ 210000000) := by
          refine ⟨?_, Tree.form_len hxw⟩
          have h1 := flat_take_le (l := t.kids) k Tree.form
          have h2 := HFL.out
          rw [HF.out] at h2
          simp only [List.length_append, List.length_singleton, List.length_nil] at h2 ⊢
          omega
        clear hc hx
        generalize [] ++ [40] ++ ((t.kids.take k).map Tree.form).flatten = pre at *
        go_wp2_with fail
        refine Calls.mono (IH.out x hmem _ _ hrd hxw) ?_
        rintro e w2 ⟨A5, c5, rfl, hs5, hB5⟩
        have ho5 := ho.later hB5
        have hbx5 := box_below hbx hB5 (Array.getElem?_eq_some_iff.1 hbx).1
        have hB5' := below_then hB hB5
        have hz5 := Nat.le_trans hz hB5.size
        clear hB hB5 hbx hrd k0 k1 k2 k3 k4 hc0 hc1 hc2 hc3 hc4 ho
        go_wp2_with (at_builtin; refine halt ?_)
        refine go_on (wpList_appB rfl TB _ _ rfl (by rfl) ho5 (by rfl) hs5 (by have := HXL.out; omega) hz5 ?_)
        intro v6 w6 ho6 hg6
        have hB6 := below_own hB5' ho5 hg6 (by omega)
        have hbx6 := box_own hbx5 ho5 hg6 (by omega)
        rw [HX.out] at ho6
        clear hg6 ho5 hs5 hbx5 hB5'
        go_wp2
        go_roundw
        case rel => exact ⟨k + 1, by omega, by go_num, ho6, hbx6, hB6⟩
        case measure => simp [intOf] <;> omega
      · have HE : Hid ([] ++ [40] ++ ((t.kids.take k).map Tree.form).flatten ++ [41] = t.form) := by
          show _ = _
          rw [HF.out, List.take_of_length_le (by have := HN.out; omega)]
        have HXL : Hid (([] ++ [40] ++ ((t.kids.take k).map Tree.form).flatten).length ≤ 210000000) := by
          show _ ≤ _
          have h2 := HFL.out
          rw [← HE.out, List.length_append] at h2
          omega
        clear hc
        generalize [] ++ [40] ++ ((t.kids.take k).map Tree.form).flatten = pre at *
        go_wp2_with (at_builtin; refine halt ?_)
        refine go_on (wpList_appB rfl TB _ _ rfl (by rfl) (ho.alloc _) (by rfl) (sl_lit1 (x := 41) rfl _) (by have := HXL.out; omega) (by simp only [World.size_alloc]; omega) ?_)
        intro v6 w6 ho6 hg6
        have hB6 := below_own (hB.alloc hB.size _) (ho.alloc _) hg6 (by omega)
        rw [HE.out] at ho6
        obtain ⟨A4, c4, rfl, hs4⟩ := ho6.sl_all
        clear ho6 hg6 ho hc0 hc1 hc2 hc3 hc4
        go_wp2
        go_ret
        exact ⟨A4, c4, rfl, hs4, hB6⟩
end Go.Proofs.YtdakeodebgggfaaDoor
