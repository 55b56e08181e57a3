/- The canonical form of a value, as the program puts it. -/
import Derived.Test.YtdakeodebgggfaaDoorQa
import Derived.Test.YtdakeodebgggfaaDoorX
import Derived.Test.YtdakeodebgggfaaDoorUj
import Derived.Deep.DeepCutAuto
namespace Go.Proofs.YtdakeodebgggfaaDoor
open Go.RowKit
set_option linter.unusedVariables false
set_option linter.unusedSimpArgs false

theorem TItem : ElemT Tryd.prog 75 74 (.pointer none) 1 8 := ⟨Tryd.underlying75, by kernel_rfl, rfl, by decide⟩
def PutE (w : World) (t : Tree) (e : Ending) (w' : World) : Prop :=
  ∃ A n c, e = .returned (.tuple #[.slice A n c, .int .i64 (if t.may then 0 else 4)]) ∧ Rep.u8.sl w' (fun b => w.heap.size ≤ b ∧ b < w'.heap.size) A n c (if t.may then t.form else []) ∧ Below w.heap.size w w'
theorem nil_or_snoc {α : Type} (l : List α) : l = [] ∨ ∃ l' x, l = l' ++ [x] := by
  rcases List.eq_nil_or_concat l with h | ⟨l', x, h⟩
  · exact .inl h
  · exact .inr ⟨l', x, by rw [h, List.concat_eq_append]⟩
theorem may_form {t : Tree} (h : t.may = true) : t.form.length ≤ 4096 := by
  simp only [Tree.may, Bool.and_eq_true, decide_eq_true_eq] at h
  exact h.2
theorem form_atomI {u : Tree} (h : u.list = false) (hh : u.hinted = true) : u.form = [91] ++ textB u.hint ++ [93] ++ textB u.data := by
  rw [Tree.form_eq, h, Tree.atomF, hh]
  rfl
theorem form_atomN {u : Tree} (h : u.list = false) (hh : u.hinted = false) : u.form = textB u.data := by
  rw [Tree.form_eq, h, Tree.atomF, hh]
  rfl
theorem form_listT {u : Tree} (h : u.list = true) : u.form = [40] ++ (u.kids.map Tree.form).flatten ++ [41] := by
  rw [Tree.form_eq, h]
  rfl

set_option maxHeartbeats 4000000 in
set_option maxRecDepth 100000 in
theorem sxput_c (t : Tree) (w : World) (cs : List Value) (h : Rep.tree.rd w (fun b => b < w.heap.size) cs t) (hT : Tabs w.heap.size w) (hw : t.wt ≤ 10000000) :
    Calls Tryd.prog 41 #[.agg cs.toArray] w (PutE w t) := by
  obtain ⟨A1, n1, c1, A2, n2, c2, A3, n3, c3, rfl, hp⟩ := Rep.tree_open h
  have HP := Lib.hid hp
  have HTT := Lib.hid hT
  have HX := Lib.hid (Below.alloc (Below.refl _ w) (Nat.le_refl _) (.cells #[.bool t.list, .bool t.hinted, .slice A1 n1 c1, .slice A2 n2 c2, .slice A3 n3 c3] 25))
  have hdx := box_new w #[.bool t.list, .bool t.hinted, .slice A1 n1 c1, .slice A2 n2 c2, .slice A3 n3 c3] 25
  clear h hT hp
  go_enter Tryd.func41, Tryd.ntmps41
  go_upto_region 1 with fail
  generalize w.alloc (.cells #[.bool t.list, .bool t.hinted, .slice A1 n1 c1, .slice A2 n2 c2, .slice A3 n3 c3] 25) = wx at *
  have hz := HX.out.size
  have q0 := (boxed hdx) 0 _ rfl; have q1 := (boxed hdx) 1 _ rfl; have q2 := (boxed hdx) 2 _ rfl; have q3 := (boxed hdx) 3 _ rfl; have q4 := (boxed hdx) 4 _ rfl
  go_wp2_with fail
  refine Calls.mono (sxmay_c t _ _ (HP.out.later HX.out).rd (HTT.out.next HX.out) hw) ?_
  rintro e wx ⟨rfl, hB⟩
  clear q0 q1 q2 q3 q4
  (try have HL2 := Lib.hid (slKeepS HL2.out hB (by intro b hb; first | omega | (simp only [false_or] at hb; omega))))
  (try have HS := Lib.hid (HS.out.trans (hB.mono (by omega))))
  (try have HK := Lib.hid (slKeepS HK.out hB (by intro b hb; first | omega | (have := hS b hb; omega))))
  (try have pa := pa.keepS hB (by intro b hb; first | omega | (simp only [false_or] at hb; omega)))
  (try have pb := pb.keepS hB (by intro b hb; first | omega | (simp only [false_or] at hb; omega)))
  (try have pc := pc.keepS hB (by intro b hb; first | omega | (simp only [false_or] at hb; omega)))
  (try have pd := pd.keepS hB (by intro b hb; first | omega | (simp only [false_or] at hb; omega)))
  (try have pe := pe.keepS hB (by intro b hb; first | omega | (simp only [false_or] at hb; omega)))
  (try have HE := Lib.hid (slKeepS HE.out hB (by intro b hb; first | omega | (simp only [false_or] at hb; omega))))
  (try have HL := Lib.hid (slKeepS HL.out hB (by intro b hb; first | omega | (simp only [false_or] at hb; omega))))
  (try have hdx := box_below hdx hB (Array.getElem?_eq_some_iff.1 hdx).1)
  (try have hrx := box_below hrx hB (Array.getElem?_eq_some_iff.1 hrx).1)
  (try have hkx := box_below hkx hB (Array.getElem?_eq_some_iff.1 hkx).1)
  (try have hix := box_below hix hB (Array.getElem?_eq_some_iff.1 hix).1)
  (try have hjx := box_below hjx hB (Array.getElem?_eq_some_iff.1 hjx).1)
  have HX := Lib.hid (below_then HX.out hB)
  have hz := hB.size
  clear hB
  cases hm : t.may with
  | false =>
    have HE : Hid ((if t.may = true then (0 : Int) else 4) = 4 ∧ (if t.may = true then t.form else []) = []) := by rw [hm]; exact ⟨rfl, rfl⟩
    clear hm
    go_wp2
    go_ret2
    exact ⟨none, 0, 0, by rw [HE.out.1]; rfl, by rw [HE.out.2]; exact Rep.sl_nil, HX.out⟩
  | true =>
  have HE : Hid ((if t.may = true then (0 : Int) else 4) = 0 ∧ (if t.may = true then t.form else []) = t.form) := by rw [hm]; exact ⟨rfl, rfl⟩
  have HF : Hid (t.form.length ≤ 4096) := may_form hm
  clear hm
  have hlt := (Array.getElem?_eq_some_iff.1 hdx).1
  obtain ⟨base, hbase⟩ : ∃ base, wx.heap.size = base := ⟨_, rfl⟩
  have HT : Hid (Tabs base wx) := by rw [← hbase]; exact HTT.out.next HX.out
  have hrd0 : Rep.item.rd wx (fun b => b < base) [.pointer (some ⟨w.heap.size, 0, none⟩)] (some t) := by
    have hpp := HP.out.later HX.out
    rw [hbase] at hpp
    have q0 := (boxed hdx) 0 _ rfl; have q1 := (boxed hdx) 1 _ rfl; have q2 := (boxed hdx) 2 _ rfl; have q3 := (boxed hdx) 3 _ rfl; have q4 := (boxed hdx) 4 _ rfl
    exact ⟨_, _, _, _, _, _, _, _, _, _, _, rfl, by omega, hpp, q0, q1, q2, q3, q4⟩
  have HI0 : Hid (Rep.item.own 74 (wx.alloc (.cells #[.pointer (some ⟨w.heap.size, 0, none⟩)] 74)) base (fun b => b < base) (.slice (some ⟨wx.heap.size, 0, none⟩) 1 1) [some t]) :=
    own_lit #[.pointer (some ⟨w.heap.size, 0, none⟩)] [some t] rfl rfl (by omega) (by decide) rfl (by intro b hb; omega) (rd_one hrd0)
  have HB0 : Hid (Below base wx (wx.alloc (.cells #[.pointer (some ⟨w.heap.size, 0, none⟩)] 74))) := Below.alloc (Below.refl _ wx) (by omega) _
  have hbw : w.heap.size ≤ base := by omega
  have hbx : base ≤ wx.heap.size := by omega
  have HBS := Lib.hid hbase
  clear hrd0 hbase
  go_wp2
  go_loopw [4, 5] (fun ox tx wr => ∃ xs l, Hid (Rep.u8.own 5 wr base (fun _ => False) ox xs) ∧ Hid (Rep.item.own 74 wr base (fun b => b < base) tx l) ∧ Hid (xs ++ restF l = t.form) ∧ Hid (Below base wx wr)) (fun ox _ _ => 4096 - lenV ox)
  case atStart => exact ⟨[], [some t], Rep.own_nil, HI0.out, by show _ = _; simp [restF, itemF], HB0.out⟩
  case round =>
    obtain ⟨xs, l, HO, HI, HQ, HB⟩ := hrel
    obtain ⟨AT, cT, rfl, hsl⟩ := Rep.own_sl HI.out
    have hz2 : base ≤ wr.heap.size := Nat.le_trans hbx HB.out.size
    have e0 := own_lenV HO.out
    rcases nil_or_snoc l with rfl | ⟨l', x, rfl⟩
    · have HQ' : Hid (xs = t.form) := by show _ = _; have := HQ.out; simpa [restF] using this
      obtain ⟨AO, cO, rfl, hso⟩ := Rep.own_sl HO.out
      have hlo := Rep.own_lt HO.out
      rw [HQ'.out] at hso hlo
      have HSO := Lib.hid hso
      have HLO := Lib.hid hlo
      clear hso hlo e0
      go_wp2
      go_ret2
      exact ⟨AO, _, cO, by rw [HE.out.1]; rfl, by rw [HE.out.2, HQ'.out]; exact Rep.sl_more HSO.out (fun b hb => by
        rcases hb with hb | hb
        · exact hb.elim
        · have := HLO.out b hb; omega), HX.out.trans (HB.out.mono hbw)⟩
    · have hlen : (l' ++ [x]).length = l'.length + 1 := by simp
      have hml : l'.length ≤ 4096 := by
        have h1 := congrArg List.length HQ.out
        have h2 := restF_len (l' ++ [x])
        have h3 := HF.out
        rw [List.length_append] at h1
        rw [hlen] at h2
        omega
      have HXL : Hid (xs.length + (itemF x).length ≤ 4096) := by
        show _ ≤ _
        have h1 := congrArg List.length HQ.out
        have h3 := HF.out
        rw [restF_snoc, List.length_append, List.length_append] at h1
        omega
      have HI1 : Hid (Rep.item.own 74 wr base (fun b => b < base) (.slice AT l'.length cT) l') := by
        have := Rep.own_front HI.out (k := l'.length) (by rw [hlen]; omega)
        rwa [List.take_left] at this
      obtain ⟨g, es, rfl, hgb, hnc, hcm, hrr, hc⟩ := own_at HI.out (k := l'.length) (x := x) (by simp)
      have HI0 := HI1
      clear HI hsl
      rw [hlen] at hnc ⊢
      generalize hm' : l'.length = m at *
      have W1 : IntKind.i64.wrap (((m + 1 : Nat) : Int) - 1) = (m : Int) := (IntWalk.i64_in _ (by omega)).trans (by omega)
      have d1 : decide ((0 : Int) < ((m + 1 : Nat) : Int)) = true := decide_eq_true (by omega)
      have i0 : (0 : Int) ≤ (m : Int) := by omega
      have i1 : (m : Int) < ((m + 1 : Nat) : Int) := by omega
      have i2 : (m : Int) ≤ (cT : Int) := by omega
      simp only [show Rep.item.size = 1 from rfl, Nat.mul_one] at hc
      cases x with
      | none =>
        obtain rfl : es = [.pointer none] := hrr
        have k0 := hc 0 _ rfl
        rw [Nat.add_zero] at k0
        clear hc
        go_wp2_with (at_builtin; refine halt ?_)
        refine go_on (wpList_app1 rfl TB _ _ rfl (by rfl) (Rep.own_alloc HO.out _ (fun _ (h : False) => h.elim)) [_] 41 rfl (cell_one_new _ _ _) (rd_u8 rfl) (by have := HXL.out; omega) (by have := HXL.out; omega) (by simp only [World.size_alloc]; omega) (fun _ (h : False) => h.elim) ?_)
        intro v2 w2 ho2 hg2 _
        have HI2 := Lib.hid (item_kept (Rep.own_alloc HI0.out _ (by intro b hb; omega)) (Rep.own_alloc HO.out _ (fun _ (h : False) => h.elim)) hg2 (by simp only [World.size_alloc]; omega) (by decide))
        have HB2 := Lib.hid ((HB.out.alloc hz2 _).grown hg2 (by simp only [World.size_alloc]; omega) fun k hk => (Rep.own_lt HO.out k hk).1)
        have e2 := own_lenV ho2
        have HO2 := Lib.hid ho2
        have HQ2 : Hid (xs ++ [41] ++ restF l' = t.form) := by show _ = _; rw [← HQ.out, restF_snoc, itemF, List.append_assoc]
        have hx2 : xs.length + 1 ≤ 4096 := HXL.out
        have e3 : (xs ++ [41]).length = xs.length + 1 := by simp
        clear hg2 ho2 k0
        go_wp2
        go_roundw
        case rel => exact ⟨xs ++ [41], l', HO2.out, HI2.out, HQ2.out, HB2.out⟩
        case measure => rw [e0, e2, e3]; omega
      | some u =>
        obtain ⟨b', o', B1, m1, b1, B2, m2, b2, B3, m3, b3, rfl, hb', hpu, u0, u1, u2, u3, u4⟩ := hrr
        have k0 := hc 0 _ rfl
        rw [Nat.add_zero] at k0
        have HPU := Lib.hid hpu
        have HBU := Lib.hid u0
        clear hc hpu
        have hxu : xs.length + u.form.length ≤ 4096 := HXL.out
        have HQ3 : Hid (xs ++ (u.form ++ restF l') = t.form) := by show _ = _; rw [← HQ.out, restF_snoc, itemF]
        cases hl : u.list with
        | true =>
          have hfl := kids_len u hl
          have HFL := Lib.hid (form_listT hl)
          rw [hl] at u0
          go_wp2_with (at_builtin; refine halt ?_)
          refine go_on (wpList_app1 rfl TB _ _ rfl (by rfl) (Rep.own_alloc HO.out _ (fun _ (h : False) => h.elim)) [_] 40 rfl (cell_one_new _ _ _) (rd_u8 rfl) (by omega) (by omega) (by simp only [World.size_alloc]; omega) (fun _ (h : False) => h.elim) ?_)
          intro v2 w2 ho2 hg2 _
          have HI2 := Lib.hid (item_kept (Rep.own_alloc HI0.out _ (by intro b hb; omega)) (Rep.own_alloc HO.out _ (fun _ (h : False) => h.elim)) hg2 (by simp only [World.size_alloc]; omega) (by decide))
          have HC2 := Lib.hid (((Below.refl base wr).alloc hz2 _).grown hg2 (by simp only [World.size_alloc]; omega) fun k hk => (Rep.own_lt HO.out k hk).1)
          have hz3 : base ≤ w2.heap.size := Nat.le_trans hz2 HC2.out.size
          have HO2 := Lib.hid ho2
          clear hg2 ho2 k0
          go_wp2_with (at_builtin; refine halt ?_)
          refine go_on (wpList_app1 rfl TItem _ _ rfl (by rfl) (Rep.own_alloc HI2.out _ (by intro b hb; omega)) [_] none rfl (cell_one_new _ _ _) rfl (by omega) (by omega) (by simp only [World.size_alloc]; omega) (by intro b hb; simp only [World.size_alloc, Value.ownBlock, Option.map_some]; exact ⟨by omega, fun e => by injection e; omega⟩) ?_)
          intro v3 w3 ho3 hg3 _
          have HO3 := Lib.hid (u8_kept (Rep.own_alloc HI2.out (.cells #[.pointer none] 74) (by intro b hb; omega)) (Rep.own_alloc HO2.out _ (fun _ (h : False) => h.elim)) hg3 (by decide))
          have HC3 := Lib.hid ((HC2.out.alloc hz3 _).grown hg3 (by simp only [World.size_alloc]; omega) fun k hk => (Rep.own_lt HI2.out k hk).1)
          have hz4 : base ≤ w3.heap.size := Nat.le_trans hz2 HC3.out.size
          have HI3 := Lib.hid ho3
          have j4 := belowCell HC3.out u4 hb'
          clear hg3 ho3 HO2 HI2 HC2 hz3 u0 u1 u2 u3
          go_wp2
          clear j4
          generalize wr = wo at *
          go_loopw [5, 68] (fun tx ix ws => ∃ k : Nat, k ≤ m3 ∧ ix = .int .i64 (k : Nat) ∧ Hid (Rep.item.own 74 ws base (fun b => b < base) tx (l' ++ [none] ++ (u.kids.reverse.take k).map some)) ∧ Hid (Rep.u8.own 5 ws base (fun _ => False) v2 (xs ++ [40])) ∧ Hid (Below base wo ws)) (fun _ ix _ => m3 - (intOf ix).toNat)
          case atStart => exact ⟨0, by omega, rfl, Lib.hid (by simpa using HI3.out), HO3.out, HC3.out⟩
          case round =>
            obtain ⟨k, hk, rfl, HIk, HOk, HBk⟩ := hrel
            have hzs : base ≤ wr.heap.size := Nat.le_trans hz2 HBk.out.size
            have hk3 : u.kids.length = m3 := HPU.out.2.2.1
            have hkc := HPU.out.2.2.2.1
            clear HO3 HI3 HC3 hz4
            by_cases hlt : k < m3
            · obtain ⟨j, hj⟩ : ∃ j, m3 = k + 1 + j := ⟨m3 - k - 1, by omega⟩
              have u4 := belowCell HBk.out u4 hb'
              obtain ⟨e3, p3, x, E1, f1, g1, E2, f2, g2, E3, f3, g3, hB3, hS3, hx, hrd, k0, k1, k2, k3, k4⟩ := kid_at (Rep.sl_below HPU.out.2.2 HBk.out fun _ h => h) (k := j) (by omega)
              subst hB3
              have HX : Hid ((u.kids.reverse.take (k + 1)).map some = (u.kids.reverse.take k).map some ++ [some x]) := by
                show _ = _
                rw [List.take_add_one, List.getElem?_reverse (by omega), show u.kids.length - 1 - k = j by omega, hx]
                simp
              have hpx := Rep.tree_open hrd
              have W2 : IntKind.i64.wrap ((m3 : Int) - 1) = (k : Int) + (j : Int) := (IntWalk.i64_in _ (by omega)).trans (by omega)
              have W3 : IntKind.i64.wrap ((k : Int) + (j : Int) - (k : Int)) = (j : Int) := (IntWalk.i64_in _ (by omega)).trans (by omega)
              have j0 : (0 : Int) ≤ (j : Int) := by omega
              have j1 : (j : Int) < (m3 : Int) := by omega
              have hitem : Rep.item.rd wr (fun b => b < base) [.pointer (some ⟨e3, p3 + j * 5, none⟩)] (some x) := by
                obtain ⟨_, _, _, _, _, _, _, _, _, he, hpp⟩ := hpx
                injection he with _ he; injection he with _ he; injection he with q1 he; injection he with q2 he; injection he with q3 he
                injection q1 with q1a q1b q1c; injection q2 with q2a q2b q2c; injection q3 with q3a q3b q3c
                subst q1a q1b q1c q2a q2b q2c q3a q3b q3c
                exact ⟨_, _, _, _, _, _, _, _, _, _, _, rfl, hS3, hpp, k0, k1, k2, k3, k4⟩
              have hBd := (Below.refl wr.heap.size wr).drew
              have HRD : Hid (Rep.item.rd (wr.drew.alloc (.cells #[.pointer (some ⟨e3, p3 + j * 5, none⟩)] 74)) (fun b => b < base) [.pointer (some ⟨e3, p3 + j * 5, none⟩)] (some x)) :=
                Rep.item.below hitem (((Below.refl base wr).drew).alloc hzs _) fun _ h => h
              have HIk := Lib.hid (Rep.own_alloc (item_later HIk.out hBd hzs) (.cells #[.pointer (some ⟨e3, p3 + j * 5, none⟩)] 74) (by intro b hb; have := hBd.size; omega))
              have HOk := Lib.hid (Rep.own_alloc (Rep.own_later HOk.out hBd) (.cells #[.pointer (some ⟨e3, p3 + j * 5, none⟩)] 74) (fun _ (h : False) => h.elim))
              have HCk : Hid (Below base wr (wr.drew.alloc (.cells #[.pointer (some ⟨e3, p3 + j * 5, none⟩)] 74))) := ((Below.refl base wr).drew).alloc hzs _
              have hbn := box_new wr.drew #[.pointer (some ⟨e3, p3 + j * 5, none⟩)] 74
              have hza : base ≤ (wr.drew.alloc (.cells #[.pointer (some ⟨e3, p3 + j * 5, none⟩)] 74)).heap.size := Nat.le_trans hzs HCk.out.size
              have hS := belowCell ((Below.refl base wr).drew) u4 hb'
              have hlk := own_lenV HIk.out
              have hln : (l' ++ [none] ++ (u.kids.reverse.take k).map some).length = m + 1 + k := by simp; omega
              have HJ := Lib.hid hj
              clear hpx hitem hrd hx k0 k1 k2 k3 k4 hBd HI0 HI1 HO hj
              go_wp2_with fail
              refine wp_region_D (fun w' => w'.cell? ⟨b', o' + 4, none⟩ = some (.slice (some ⟨e3, p3, none⟩) m3 b3)) [] (by kernel_rfl) ?_
              refine wpAnyD_take (i := 0) (v := ?_) rfl (by kernel_rfl) (by kernel_rfl) (by kernel_rfl) (by kernel_rfl) (fun _ _ _ h => by first | exact h | cases h.1) (by rfl) (by kernel_rfl) (Or.inl ⟨by rfl, ?_⟩) (by first | exact HS.out | exact hS | exact hdx | exact ⟨hdx, hkx⟩) ?_
              rotate_left
              · (intro w' hw'; (try dsimp only at hw'); skip; go_simp; first | done | with_reducible rfl)
              (try simp only [List.getElem_toArray, List.getElem_cons_zero, List.getElem_cons_succ, Act.put, List.setIfInBounds_toArray, List.set_cons_zero, List.set_cons_succ])
              refine wpAnyD_take (i := 1) (v := ?_) rfl (by kernel_rfl) (by kernel_rfl) (by kernel_rfl) (by kernel_rfl) (fun _ _ _ h => by first | exact h | cases h.1) (by rfl) (by kernel_rfl) (Or.inl ⟨by rfl, ?_⟩) (by first | exact HS.out | exact hS | exact hdx | exact ⟨hdx, hkx⟩) ?_
              rotate_left
              · (intro w' hw'; (try dsimp only at hw'); skip; go_simp; first | done | with_reducible rfl)
              (try simp only [List.getElem_toArray, List.getElem_cons_zero, List.getElem_cons_succ, Act.put, List.setIfInBounds_toArray, List.set_cons_zero, List.set_cons_succ])
              refine wpAnyD_take (i := 2) (v := ?_) rfl (by kernel_rfl) (by kernel_rfl) (by kernel_rfl) (by kernel_rfl) (fun _ _ _ h => by first | exact h | cases h.1) (by rfl) (by kernel_rfl) (Or.inl ⟨by rfl, ?_⟩) (by first | exact HS.out | exact hS | exact hdx | exact ⟨hdx, hkx⟩) ?_
              rotate_left
              · (intro w' hw'; (try dsimp only at hw'); skip; go_simp; first | done | with_reducible rfl)
              (try simp only [List.getElem_toArray, List.getElem_cons_zero, List.getElem_cons_succ, Act.put, List.setIfInBounds_toArray, List.set_cons_zero, List.set_cons_succ])
              refine wpAnyD_take (i := 3) (v := ?_) rfl (by kernel_rfl) (by kernel_rfl) (by kernel_rfl) (by kernel_rfl) (fun _ _ _ h => by first | exact h | cases h.1) (by rfl) (by kernel_rfl) (Or.inl ⟨by rfl, ?_⟩) (by first | exact HS.out | exact hS | exact hdx | exact ⟨hdx, hkx⟩) ?_
              rotate_left
              · (intro w' hw'; (try dsimp only at hw'); skip; go_simp; first | done | with_reducible rfl)
              (try simp only [List.getElem_toArray, List.getElem_cons_zero, List.getElem_cons_succ, Act.put, List.setIfInBounds_toArray, List.set_cons_zero, List.set_cons_succ])
              refine wpAnyD_take (i := 4) (v := ?_) rfl (by kernel_rfl) (by kernel_rfl) (by kernel_rfl) (by kernel_rfl) (fun _ _ _ h => by first | exact h | cases h.1) (by rfl) (by kernel_rfl) (Or.inl ⟨by rfl, ?_⟩) (by first | exact HS.out | exact hS | exact hdx | exact ⟨hdx, hkx⟩) ?_
              rotate_left
              · (intro w' hw'; (try dsimp only at hw'); skip; go_simp; first | done | with_reducible rfl)
              (try simp only [List.getElem_toArray, List.getElem_cons_zero, List.getElem_cons_succ, Act.put, List.setIfInBounds_toArray, List.set_cons_zero, List.set_cons_succ])
              refine wpAnyD_take (i := 5) (v := ?_) rfl (by kernel_rfl) (by kernel_rfl) (by kernel_rfl) (by kernel_rfl) (fun _ _ _ h => by first | exact h | cases h.1) (by rfl) (by kernel_rfl) (Or.inl ⟨by rfl, ?_⟩) (by first | exact HS.out | exact hS | exact hdx | exact ⟨hdx, hkx⟩) ?_
              rotate_left
              · (intro w' hw'; (try dsimp only at hw'); skip; go_simp; first | done | with_reducible rfl)
              (try simp only [List.getElem_toArray, List.getElem_cons_zero, List.getElem_cons_succ, Act.put, List.setIfInBounds_toArray, List.set_cons_zero, List.set_cons_succ])
              refine wpAnyD_take (i := 6) (v := ?_) rfl (by kernel_rfl) (by kernel_rfl) (by kernel_rfl) (by kernel_rfl) (fun _ _ _ h => by first | exact h | cases h.1) (by rfl) (by kernel_rfl) (Or.inl ⟨by rfl, ?_⟩) (by first | exact HS.out | exact hS | exact hdx | exact ⟨hdx, hkx⟩) ?_
              rotate_left
              · (intro w' hw'; (try dsimp only at hw'); skip; go_simp; first | done | with_reducible rfl)
              (try simp only [List.getElem_toArray, List.getElem_cons_zero, List.getElem_cons_succ, Act.put, List.setIfInBounds_toArray, List.set_cons_zero, List.set_cons_succ])
              refine wpAnyD_take (i := 7) (v := ?_) rfl (by kernel_rfl) (by kernel_rfl) (by kernel_rfl) (by kernel_rfl) (fun _ _ _ h => by first | exact h | cases h.1) (by rfl) (by kernel_rfl) (Or.inl ⟨by rfl, ?_⟩) (by first | exact HS.out | exact hS | exact hdx | exact ⟨hdx, hkx⟩) ?_
              rotate_left
              · (intro w' hw'; (try dsimp only at hw'); skip; go_simp; first | done | with_reducible rfl)
              (try simp only [List.getElem_toArray, List.getElem_cons_zero, List.getElem_cons_succ, Act.put, List.setIfInBounds_toArray, List.set_cons_zero, List.set_cons_succ])
              refine wpAnyD_take (i := 8) (v := ?_) rfl (by kernel_rfl) (by kernel_rfl) (by kernel_rfl) (by kernel_rfl) (fun _ _ _ h => by first | exact h | cases h.1) (by rfl) (by kernel_rfl) (Or.inl ⟨by rfl, ?_⟩) (by first | exact HS.out | exact hS | exact hdx | exact ⟨hdx, hkx⟩) ?_
              rotate_left
              · (intro w' hw'; (try dsimp only at hw'); skip; go_simp; first | done | with_reducible rfl)
              (try simp only [List.getElem_toArray, List.getElem_cons_zero, List.getElem_cons_succ, Act.put, List.setIfInBounds_toArray, List.set_cons_zero, List.set_cons_succ])
              refine wpAnyD_take (i := 9) (v := ?_) rfl (by kernel_rfl) (by kernel_rfl) (by kernel_rfl) (by kernel_rfl) (fun _ _ _ h => by first | exact h | cases h.1) (by rfl) (by kernel_rfl) (Or.inl ⟨by rfl, ?_⟩) (by first | exact HS.out | exact hS | exact hdx | exact ⟨hdx, hkx⟩) ?_
              rotate_left
              · (intro w' hw'; (try dsimp only at hw'); skip; go_simp; first | done | with_reducible rfl)
              (try simp only [List.getElem_toArray, List.getElem_cons_zero, List.getElem_cons_succ, Act.put, List.setIfInBounds_toArray, List.set_cons_zero, List.set_cons_succ])
              refine wpAnyD_take (i := 10) (v := ?_) rfl (by kernel_rfl) (by kernel_rfl) (by kernel_rfl) (by kernel_rfl) (fun _ _ _ h => by first | exact h | cases h.1) (by rfl) (by kernel_rfl) (Or.inl ⟨by rfl, ?_⟩) (by first | exact HS.out | exact hS | exact hdx | exact ⟨hdx, hkx⟩) ?_
              rotate_left
              · (intro w' hw'; (try dsimp only at hw'); skip; go_simp; first | done | with_reducible rfl)
              (try simp only [List.getElem_toArray, List.getElem_cons_zero, List.getElem_cons_succ, Act.put, List.setIfInBounds_toArray, List.set_cons_zero, List.set_cons_succ])
              refine wpAnyD_take (i := 11) (v := ?_) rfl (by kernel_rfl) (by kernel_rfl) (by kernel_rfl) (by kernel_rfl) (fun _ _ _ h => by first | exact h | cases h.1) (by rfl) (by kernel_rfl) (Or.inl ⟨by rfl, ?_⟩) (by first | exact HS.out | exact hS | exact hdx | exact ⟨hdx, hkx⟩) ?_
              rotate_left
              · (intro w' hw'; (try dsimp only at hw'); skip; go_simp; first | done | with_reducible rfl)
              (try simp only [List.getElem_toArray, List.getElem_cons_zero, List.getElem_cons_succ, Act.put, List.setIfInBounds_toArray, List.set_cons_zero, List.set_cons_succ])
              refine wpAnyD_take (i := 12) (v := ?_) rfl (by kernel_rfl) (by kernel_rfl) (by kernel_rfl) (by kernel_rfl) (fun _ _ _ h => by first | exact h | cases h.1) (by rfl) (by kernel_rfl) (Or.inl ⟨by rfl, ?_⟩) (by first | exact HS.out | exact hS | exact hdx | exact ⟨hdx, hkx⟩) ?_
              rotate_left
              · (intro w' hw'; (try dsimp only at hw'); skip; go_simp; first | done | with_reducible rfl)
              (try simp only [List.getElem_toArray, List.getElem_cons_zero, List.getElem_cons_succ, Act.put, List.setIfInBounds_toArray, List.set_cons_zero, List.set_cons_succ])
              refine wpAnyD_take (i := 13) (v := ?_) rfl (by kernel_rfl) (by kernel_rfl) (by kernel_rfl) (by kernel_rfl) (fun _ _ _ h => by first | exact h | cases h.1) (by rfl) (by kernel_rfl) (Or.inl ⟨by rfl, ?_⟩) (by first | exact HS.out | exact hS | exact hdx | exact ⟨hdx, hkx⟩) ?_
              rotate_left
              · (intro w' hw'; (try dsimp only at hw'); skip; go_simp; first | done | with_reducible rfl)
              (try simp only [List.getElem_toArray, List.getElem_cons_zero, List.getElem_cons_succ, Act.put, List.setIfInBounds_toArray, List.set_cons_zero, List.set_cons_succ])
              refine wpAnyD_all (rs := [14]) (by kernel_rfl) (by simp) (AllD.cons rfl (by rfl) (fun K hK => ?_) AllD.nil)
              go_simp
              have hS := belowCell HCk.out u4 hb'
              refine hK.out _ _ (fun _ => hS) ?_
              clear hK K
              (try simp only [List.getElem_toArray, List.getElem_cons_zero, List.getElem_cons_succ, Act.put, List.setIfInBounds_toArray, List.set_cons_zero, List.set_cons_succ])
              refine wpAnyD_all (rs := [15]) (by kernel_rfl) (by simp) (AllD.cons rfl (by rfl) (fun K hK => ?_) AllD.nil)
              refine wp_app1 TItem _ _ rfl (by rfl) HIk.out [_] (some x) (by rfl) (box_cells hbn) HRD.out (by rw [hln]; omega) (by rw [hln]; omega) hza (fun b hb => ⟨Nat.lt_of_lt_of_le hb hza, fun e => by have := (Rep.own_lt HIk.out b e.symm).1; have hb2 : b < base := hb; omega⟩) ?_
              intro v4 w4 ho4 hg4 _
              have HIn := Lib.hid ho4
              have HOn := Lib.hid (u8_kept HIk.out HOk.out hg4 (by decide))
              have HCn := Lib.hid (HCk.out.grown hg4 hza fun k hk => (Rep.own_lt HIk.out k hk).1)
              have HBn := Lib.hid (HBk.out.trans HCn.out)
              clear hg4 ho4
              have hS := belowCell HCn.out u4 hb'
              refine hK.out _ _ (fun _ => hS) ?_
              clear hK K
              (try simp only [List.getElem_toArray, List.getElem_cons_zero, List.getElem_cons_succ, Act.put, List.setIfInBounds_toArray, List.set_cons_zero, List.set_cons_succ])
              refine wpAnyD_take (i := 16) (v := ?_) rfl (by kernel_rfl) (by kernel_rfl) (by kernel_rfl) (by kernel_rfl) (fun _ _ _ h => by first | exact h | cases h.1) (by rfl) (by kernel_rfl) (Or.inl ⟨by rfl, ?_⟩) (by first | exact HS.out | exact hS | exact hdx | exact ⟨hdx, hkx⟩) ?_
              rotate_left
              · (intro w' hw'; (try dsimp only at hw'); skip; go_simp; first | done | with_reducible rfl)
              (try simp only [List.getElem_toArray, List.getElem_cons_zero, List.getElem_cons_succ, Act.put, List.setIfInBounds_toArray, List.set_cons_zero, List.set_cons_succ])
              refine wpAnyD_done (by kernel_rfl) ?_ _
              go_wp2
              go_roundw
              case rel => exact ⟨k + 1, by omega, by go_num, by rw [HX.out, ← List.append_assoc]; exact HIn.out, HOn.out, HBn.out⟩
              case measure => simp [intOf] <;> omega
            · have hkk : k = m3 := by omega
              subst hkk
              have e2 := own_lenV HOk.out
              have e3 : (xs ++ [40]).length = xs.length + 1 := by simp
              have HQ5 : Hid (xs ++ [40] ++ restF (l' ++ [none] ++ (u.kids.reverse.take k).map some) = t.form) := by
                show _ = _
                rw [← HQ3.out, HFL.out, List.take_of_length_le (by rw [List.length_reverse]; omega), restF_app, restF_snoc, restF_kids, itemF]
                simp only [List.append_assoc]
              have HB5 := Lib.hid (HB.out.trans HBk.out)
              go_wp2
              go_roundw
              case rel => exact ⟨xs ++ [40], _, HOk.out, HIk.out, HQ5.out, HB5.out⟩
              case measure => rw [e0, e2, e3]; omega
        | false =>
          rw [hl] at u0
          have hp2 := textB_pos u.data
          have HD2 : Hid (u.data.length = m2) := HPU.out.2.1.1
          cases hh : u.hinted with
          | false =>
            rw [hh] at u1
            have HFL := Lib.hid (form_atomN hl hh)
            have hpl : u.form.length = (textB u.data).length := congrArg List.length HFL.out
            go_wp2_with fail
            refine Calls.mono (sxput1_c xs u.data _ B2 m2 b2 _ base HO.out HPU.out.2.1 hz2 (HT.out.on HB.out) (by omega) (by have := HD2.out; omega)) ?_
            rintro e w2 ⟨v2, rfl, ho2, hg2, hf2⟩
            have HI2 := Lib.hid (item_kept HI0.out HO.out hg2 hz2 (by decide))
            have HB2 := Lib.hid (HB.out.grown hg2 hz2 fun k hk => (Rep.own_lt HO.out k hk).1)
            have e2 := own_lenV ho2
            have HO2 := Lib.hid ho2
            have HQ2 : Hid (xs ++ textB u.data ++ restF l' = t.form) := by show _ = _; rw [← HQ3.out, HFL.out, List.append_assoc]
            have e3 : (xs ++ textB u.data).length = xs.length + (textB u.data).length := by simp
            clear hg2 ho2 hf2 k0 u0 u1 u2 u3 u4
            generalize (textB u.data) = D at *
            go_wp2
            go_roundw
            case rel => exact ⟨_, l', HO2.out, HI2.out, HQ2.out, HB2.out⟩
            case measure => rw [e0, e2, e3]; omega
          | true =>
            rw [hh] at u1
            have HFL := Lib.hid (form_atomI hl hh)
            have hp3 := textB_pos u.hint
            have HD1 : Hid (u.hint.length = m1) := HPU.out.1.1
            have hpl : u.form.length = (textB u.data).length + (textB u.hint).length + 2 := by rw [HFL.out]; simp; omega
            have HQ4 : Hid (xs ++ [91] ++ textB u.hint ++ [93] ++ textB u.data ++ restF l' = t.form) := by show _ = _; rw [← HQ3.out, HFL.out]; simp only [List.append_assoc]
            go_wp2_with fail
            have hB := (Below.refl wr.heap.size wr).drew
            have HO := Lib.hid (Rep.own_later HO.out hB)
            have HI0 := Lib.hid (item_later HI0.out hB hz2)
            have HC := Lib.hid (hB.mono hz2)
            have u2 := belowCell (hB.mono hz2) u2 hb'
            have hz2 := Nat.le_trans hz2 hB.size
            have hS := u2
            clear hB k0 u0 u1
            refine wp_region_D (fun w' => w'.cell? ⟨b', o' + 2, none⟩ = some (.slice B1 m1 b1)) [] (by kernel_rfl) ?_
            generalize wr.drew = wy at *
            refine wpAnyD_take (i := 0) (v := ?_) rfl (by kernel_rfl) (by kernel_rfl) (by kernel_rfl) (by kernel_rfl) (fun _ _ _ h => by first | exact h | cases h.1) (by rfl) (by kernel_rfl) (Or.inl ⟨by rfl, ?_⟩) (by first | exact HS.out | exact hS | exact hdx | exact ⟨hdx, hkx⟩) ?_
            rotate_left
            · (intro w' hw'; (try dsimp only at hw'); skip; go_simp; first | done | with_reducible rfl)
            (try simp only [List.getElem_toArray, List.getElem_cons_zero, List.getElem_cons_succ, Act.put, List.setIfInBounds_toArray, List.set_cons_zero, List.set_cons_succ])
            refine wpAnyD_take (i := 3) (v := ?_) rfl (by kernel_rfl) (by kernel_rfl) (by kernel_rfl) (by kernel_rfl) (fun _ _ _ h => by first | exact h | cases h.1) (by rfl) (by kernel_rfl) (Or.inl ⟨by rfl, ?_⟩) (by first | exact HS.out | exact hS | exact hdx | exact ⟨hdx, hkx⟩) ?_
            rotate_left
            · (intro w' hw'; (try dsimp only at hw'); skip; go_simp; first | done | with_reducible rfl)
            (try simp only [List.getElem_toArray, List.getElem_cons_zero, List.getElem_cons_succ, Act.put, List.setIfInBounds_toArray, List.set_cons_zero, List.set_cons_succ])
            refine wpAnyD_take (i := 4) (v := ?_) rfl (by kernel_rfl) (by kernel_rfl) (by kernel_rfl) (by kernel_rfl) (fun _ _ _ h => by first | exact h | cases h.1) (by rfl) (by kernel_rfl) (Or.inl ⟨by rfl, ?_⟩) (by first | exact HS.out | exact hS | exact hdx | exact ⟨hdx, hkx⟩) ?_
            rotate_left
            · (intro w' hw'; (try dsimp only at hw'); skip; go_simp; first | done | with_reducible rfl)
            (try simp only [List.getElem_toArray, List.getElem_cons_zero, List.getElem_cons_succ, Act.put, List.setIfInBounds_toArray, List.set_cons_zero, List.set_cons_succ])
            refine wpAnyD_take (i := 5) (v := ?_) rfl (by kernel_rfl) (by kernel_rfl) (by kernel_rfl) (by kernel_rfl) (fun _ _ _ h => by first | exact h | cases h.1) (by rfl) (by kernel_rfl) (Or.inl ⟨by rfl, ?_⟩) (by first | exact HS.out | exact hS | exact hdx | exact ⟨hdx, hkx⟩) ?_
            rotate_left
            · (intro w' hw'; (try dsimp only at hw'); skip; go_simp; first | done | with_reducible rfl)
            (try simp only [List.getElem_toArray, List.getElem_cons_zero, List.getElem_cons_succ, Act.put, List.setIfInBounds_toArray, List.set_cons_zero, List.set_cons_succ])
            refine wpAnyD_take (i := 6) (v := ?_) rfl (by kernel_rfl) (by kernel_rfl) (by kernel_rfl) (by kernel_rfl) (fun _ _ _ h => by first | exact h | cases h.1) (by rfl) (by kernel_rfl) (Or.inl ⟨by rfl, ?_⟩) (by first | exact HS.out | exact hS | exact hdx | exact ⟨hdx, hkx⟩) ?_
            rotate_left
            · (intro w' hw'; (try dsimp only at hw'); skip; go_simp; first | done | with_reducible rfl)
            (try simp only [List.getElem_toArray, List.getElem_cons_zero, List.getElem_cons_succ, Act.put, List.setIfInBounds_toArray, List.set_cons_zero, List.set_cons_succ])
            refine wpAnyD_all (rs := [1, 8]) (by kernel_rfl) (by simp) (AllD.cons rfl (by rfl) (fun K hK => ?_) (AllD.cons rfl (by rfl) (fun K hK => ?_) AllD.nil))
            · go_simp
              have hBa := Below.alloc (Below.refl wy.heap.size wy) (Nat.le_refl _) (.cells #[.int .u8 91] 5)
              have hcn := box_new wy #[.int .u8 91] 5
              have hnn := Rep.own_lt HO.out
              have HO := Lib.hid (Rep.own_later HO.out hBa)
              have HI0 := Lib.hid (item_later HI0.out hBa hz2)
              have HC := Lib.hid (HC.out.trans (hBa.mono hz2))
              have u2 := belowCell (hBa.mono hz2) u2 hb'
              (try have c91 := box_below c91 hBa (Array.getElem?_eq_some_iff.1 c91).1)
              (try have c93 := box_below c93 hBa (Array.getElem?_eq_some_iff.1 c93).1)
              have hz2 := Nat.le_trans hz2 hBa.size
              have c91 := hcn
              clear hBa hcn
              generalize hgc91 : wy.heap.size = g91 at *
              generalize wy.alloc (.cells #[.int .u8 91] 5) = wy at *
              have nc91 := hnn
              clear hnn
              have hS := u2
              refine hK.out _ _ (fun _ => u2) ?_
              clear hK K
              (try simp only [List.getElem_toArray, List.getElem_cons_zero, List.getElem_cons_succ, Act.put, List.setIfInBounds_toArray, List.set_cons_zero, List.set_cons_succ])
              refine wpAnyD_all (rs := [2, 8]) (by kernel_rfl) (by simp) (AllD.cons rfl (by rfl) (fun K hK => ?_) (AllD.cons rfl (by rfl) (fun K hK => ?_) AllD.nil))
              · refine wp_app1 TB _ _ rfl (by rfl) HO.out [_] 91 (by rfl) (box_cells c91) (rd_u8 rfl) (by omega) (by omega) hz2 (fun _ (h : False) => h.elim) ?_
                intro v2 w2 ho2 hg2 hf2
                (try have nd93 : ∀ k, v2.ownBlock = some k → base ≤ k ∧ k ≠ g93 := fun k hk => by rcases hf2 with h | h; (rw [h] at hk; have := nc93 _ hk; omega); (rw [h] at hk; injection hk with hk; have := (Array.getElem?_eq_some_iff.1 c93).1; have := (Rep.own_lt ho2 k (by rw [h, hk])).1; omega))
                have HI0 := Lib.hid (item_kept HI0.out HO.out hg2 hz2 (by decide))
                have HC := Lib.hid (HC.out.grown hg2 hz2 fun k hk => (Rep.own_lt HO.out k hk).1)
                have u2 := belowCell (((Below.refl base wy).grown hg2 hz2 fun k hk => (Rep.own_lt HO.out k hk).1)) u2 hb'
                (try have c93 := box_grown c93 hg2 (fun e => by have := nc93 _ e.symm; omega))
                have hz2 := Nat.le_trans hz2 hg2.size
                have HO := Lib.hid ho2
                clear hg2 hf2 ho2
                generalize w2 = wy at *
                (try have nc93 := nd93)
                have hS := u2
                refine hK.out _ _ (fun _ => u2) ?_
                clear hK K
                (try simp only [List.getElem_toArray, List.getElem_cons_zero, List.getElem_cons_succ, Act.put, List.setIfInBounds_toArray, List.set_cons_zero, List.set_cons_succ])
                refine wpAnyD_all (rs := [7, 8]) (by kernel_rfl) (by simp) (AllD.cons rfl (by rfl) (fun K hK => ?_) (AllD.cons rfl (by rfl) (fun K hK => ?_) AllD.nil))
                · go_simp
                  refine Calls.mono (sxput1_c _ u.hint _ B1 m1 b1 _ base HO.out (Rep.sl_below HPU.out.1 HC.out fun _ h => h) hz2 (HT.out.on (HB.out.trans HC.out)) (by simp only [List.length_append, List.length_singleton]; omega) (by have := HD1.out; omega)) ?_
                  rintro e w2 ⟨v2, rfl, ho2, hg2, hf2⟩
                  have HI0 := Lib.hid (item_kept HI0.out HO.out hg2 hz2 (by decide))
                  have HC := Lib.hid (HC.out.grown hg2 hz2 fun k hk => (Rep.own_lt HO.out k hk).1)
                  have u2 := belowCell (((Below.refl base wy).grown hg2 hz2 fun k hk => (Rep.own_lt HO.out k hk).1)) u2 hb'
                  (try have c93 := box_grown c93 hg2 (fun e => by have := nc93 _ e.symm; omega))
                  have hz2 := Nat.le_trans hz2 hg2.size
                  have HO := Lib.hid ho2
                  clear hg2 hf2 ho2
                  generalize w2 = wy at *
                  have hS := u2
                  refine hK.out _ _ (fun _ => u2) ?_
                  clear hK K
                  (try simp only [List.getElem_toArray, List.getElem_cons_zero, List.getElem_cons_succ, Act.put, List.setIfInBounds_toArray, List.set_cons_zero, List.set_cons_succ])
                  refine wpAnyD_all (rs := [8]) (by kernel_rfl) (by simp) (AllD.cons rfl (by rfl) (fun K hK => ?_) AllD.nil)
                  go_simp
                  have hBa := Below.alloc (Below.refl wy.heap.size wy) (Nat.le_refl _) (.cells #[.int .u8 93] 5)
                  have hcn := box_new wy #[.int .u8 93] 5
                  have hnn := Rep.own_lt HO.out
                  have HO := Lib.hid (Rep.own_later HO.out hBa)
                  have HI0 := Lib.hid (item_later HI0.out hBa hz2)
                  have HC := Lib.hid (HC.out.trans (hBa.mono hz2))
                  have u2 := belowCell (hBa.mono hz2) u2 hb'
                  (try have c91 := box_below c91 hBa (Array.getElem?_eq_some_iff.1 c91).1)
                  (try have c93 := box_below c93 hBa (Array.getElem?_eq_some_iff.1 c93).1)
                  have hz2 := Nat.le_trans hz2 hBa.size
                  have c93 := hcn
                  clear hBa hcn
                  generalize hgc93 : wy.heap.size = g93 at *
                  generalize wy.alloc (.cells #[.int .u8 93] 5) = wy at *
                  have nc93 := hnn
                  clear hnn
                  have hS := u2
                  refine hK.out _ _ (fun _ => u2) ?_
                  clear hK K
                  (try simp only [List.getElem_toArray, List.getElem_cons_zero, List.getElem_cons_succ, Act.put, List.setIfInBounds_toArray, List.set_cons_zero, List.set_cons_succ])
                  refine wpAnyD_all (rs := [9]) (by kernel_rfl) (by simp) (AllD.cons rfl (by rfl) (fun K hK => ?_) AllD.nil)
                  refine wp_app1 TB _ _ rfl (by rfl) HO.out [_] 93 (by rfl) (box_cells c93) (rd_u8 rfl) (by simp only [List.length_append, List.length_singleton]; omega) (by simp only [List.length_append, List.length_singleton]; omega) hz2 (fun _ (h : False) => h.elim) ?_
                  intro v2 w2 ho2 hg2 hf2
                  have HI0 := Lib.hid (item_kept HI0.out HO.out hg2 hz2 (by decide))
                  have HC := Lib.hid (HC.out.grown hg2 hz2 fun k hk => (Rep.own_lt HO.out k hk).1)
                  have u2 := belowCell (((Below.refl base wy).grown hg2 hz2 fun k hk => (Rep.own_lt HO.out k hk).1)) u2 hb'
                  (try have c93 := box_grown c93 hg2 (fun e => by have := nc93 _ e.symm; omega))
                  have hz2 := Nat.le_trans hz2 hg2.size
                  have HO := Lib.hid ho2
                  clear hg2 hf2 ho2
                  generalize w2 = wy at *
                  have hS := u2
                  refine hK.out _ _ (fun _ => u2) ?_
                  clear hK K
                  (try simp only [List.getElem_toArray, List.getElem_cons_zero, List.getElem_cons_succ, Act.put, List.setIfInBounds_toArray, List.set_cons_zero, List.set_cons_succ])
                  refine wpAnyD_take (i := 10) (v := ?_) rfl (by kernel_rfl) (by kernel_rfl) (by kernel_rfl) (by kernel_rfl) (fun _ _ _ h => by first | exact h | cases h.1) (by rfl) (by kernel_rfl) (Or.inl ⟨by rfl, ?_⟩) (by first | exact HS.out | exact hS | exact hdx | exact ⟨hdx, hkx⟩) ?_
                  rotate_left
                  · (intro w' hw'; (try dsimp only at hw'); skip; go_simp; first | done | with_reducible rfl)
                  (try simp only [List.getElem_toArray, List.getElem_cons_zero, List.getElem_cons_succ, Act.put, List.setIfInBounds_toArray, List.set_cons_zero, List.set_cons_succ])
                  refine wpAnyD_done (by kernel_rfl) ?_ _
                  have u3 := belowCell HC.out u3 hb'
                  go_wp2_with fail
                  refine Calls.mono (sxput1_c _ u.data _ B2 m2 b2 _ base HO.out (Rep.sl_below HPU.out.2.1 HC.out fun _ h => h) hz2 (HT.out.on (HB.out.trans HC.out)) (by simp only [List.length_append, List.length_singleton]; omega) (by have := HD2.out; omega)) ?_
                  rintro e w2 ⟨v2, rfl, ho2, hg2, hf2⟩
                  have HI0 := Lib.hid (item_kept HI0.out HO.out hg2 hz2 (by decide))
                  have HC := Lib.hid (HC.out.grown hg2 hz2 fun k hk => (Rep.own_lt HO.out k hk).1)
                  have u2 := belowCell (((Below.refl base wy).grown hg2 hz2 fun k hk => (Rep.own_lt HO.out k hk).1)) u2 hb'
                  (try have c93 := box_grown c93 hg2 (fun e => by have := nc93 _ e.symm; omega))
                  have hz2 := Nat.le_trans hz2 hg2.size
                  have HO := Lib.hid ho2
                  clear hg2 hf2 ho2
                  generalize w2 = wy at *
                  have e2 := own_lenV HO.out
                  have HB2 := Lib.hid (HB.out.trans HC.out)
                  have e3 : (xs ++ [91] ++ textB u.hint ++ [93] ++ textB u.data).length = xs.length + 2 + (textB u.hint).length + (textB u.data).length := by simp; omega
                  clear u2 u3 u4
                  generalize (textB u.data) = D at *
                  generalize (textB u.hint) = H at *
                  go_wp2
                  go_roundw
                  case rel => exact ⟨_, l', HO.out, HI0.out, HQ4.out, HB2.out⟩
                  case measure => rw [e0, e2, e3]; omega
                · go_simp
                  have hBa := Below.alloc (Below.refl wy.heap.size wy) (Nat.le_refl _) (.cells #[.int .u8 93] 5)
                  have hcn := box_new wy #[.int .u8 93] 5
                  have hnn := Rep.own_lt HO.out
                  have HO := Lib.hid (Rep.own_later HO.out hBa)
                  have HI0 := Lib.hid (item_later HI0.out hBa hz2)
                  have HC := Lib.hid (HC.out.trans (hBa.mono hz2))
                  have u2 := belowCell (hBa.mono hz2) u2 hb'
                  (try have c91 := box_below c91 hBa (Array.getElem?_eq_some_iff.1 c91).1)
                  (try have c93 := box_below c93 hBa (Array.getElem?_eq_some_iff.1 c93).1)
                  have hz2 := Nat.le_trans hz2 hBa.size
                  have c93 := hcn
                  clear hBa hcn
                  generalize hgc93 : wy.heap.size = g93 at *
                  generalize wy.alloc (.cells #[.int .u8 93] 5) = wy at *
                  have nc93 := hnn
                  clear hnn
                  have hS := u2
                  refine hK.out _ _ (fun _ => u2) ?_
                  clear hK K
                  (try simp only [List.getElem_toArray, List.getElem_cons_zero, List.getElem_cons_succ, Act.put, List.setIfInBounds_toArray, List.set_cons_zero, List.set_cons_succ])
                  refine wpAnyD_all (rs := [7]) (by kernel_rfl) (by simp) (AllD.cons rfl (by rfl) (fun K hK => ?_) AllD.nil)
                  go_simp
                  refine Calls.mono (sxput1_c _ u.hint _ B1 m1 b1 _ base HO.out (Rep.sl_below HPU.out.1 HC.out fun _ h => h) hz2 (HT.out.on (HB.out.trans HC.out)) (by simp only [List.length_append, List.length_singleton]; omega) (by have := HD1.out; omega)) ?_
                  rintro e w2 ⟨v2, rfl, ho2, hg2, hf2⟩
                  have HI0 := Lib.hid (item_kept HI0.out HO.out hg2 hz2 (by decide))
                  have HC := Lib.hid (HC.out.grown hg2 hz2 fun k hk => (Rep.own_lt HO.out k hk).1)
                  have u2 := belowCell (((Below.refl base wy).grown hg2 hz2 fun k hk => (Rep.own_lt HO.out k hk).1)) u2 hb'
                  (try have c93 := box_grown c93 hg2 (fun e => by have := nc93 _ e.symm; omega))
                  have hz2 := Nat.le_trans hz2 hg2.size
                  have HO := Lib.hid ho2
                  clear hg2 hf2 ho2
                  generalize w2 = wy at *
                  have hS := u2
                  refine hK.out _ _ (fun _ => u2) ?_
                  clear hK K
                  (try simp only [List.getElem_toArray, List.getElem_cons_zero, List.getElem_cons_succ, Act.put, List.setIfInBounds_toArray, List.set_cons_zero, List.set_cons_succ])
                  refine wpAnyD_all (rs := [9]) (by kernel_rfl) (by simp) (AllD.cons rfl (by rfl) (fun K hK => ?_) AllD.nil)
                  refine wp_app1 TB _ _ rfl (by rfl) HO.out [_] 93 (by rfl) (box_cells c93) (rd_u8 rfl) (by simp only [List.length_append, List.length_singleton]; omega) (by simp only [List.length_append, List.length_singleton]; omega) hz2 (fun _ (h : False) => h.elim) ?_
                  intro v2 w2 ho2 hg2 hf2
                  have HI0 := Lib.hid (item_kept HI0.out HO.out hg2 hz2 (by decide))
                  have HC := Lib.hid (HC.out.grown hg2 hz2 fun k hk => (Rep.own_lt HO.out k hk).1)
                  have u2 := belowCell (((Below.refl base wy).grown hg2 hz2 fun k hk => (Rep.own_lt HO.out k hk).1)) u2 hb'
                  (try have c93 := box_grown c93 hg2 (fun e => by have := nc93 _ e.symm; omega))
                  have hz2 := Nat.le_trans hz2 hg2.size
                  have HO := Lib.hid ho2
                  clear hg2 hf2 ho2
                  generalize w2 = wy at *
                  have hS := u2
                  refine hK.out _ _ (fun _ => u2) ?_
                  clear hK K
                  (try simp only [List.getElem_toArray, List.getElem_cons_zero, List.getElem_cons_succ, Act.put, List.setIfInBounds_toArray, List.set_cons_zero, List.set_cons_succ])
                  refine wpAnyD_take (i := 10) (v := ?_) rfl (by kernel_rfl) (by kernel_rfl) (by kernel_rfl) (by kernel_rfl) (fun _ _ _ h => by first | exact h | cases h.1) (by rfl) (by kernel_rfl) (Or.inl ⟨by rfl, ?_⟩) (by first | exact HS.out | exact hS | exact hdx | exact ⟨hdx, hkx⟩) ?_
                  rotate_left
                  · (intro w' hw'; (try dsimp only at hw'); skip; go_simp; first | done | with_reducible rfl)
                  (try simp only [List.getElem_toArray, List.getElem_cons_zero, List.getElem_cons_succ, Act.put, List.setIfInBounds_toArray, List.set_cons_zero, List.set_cons_succ])
                  refine wpAnyD_done (by kernel_rfl) ?_ _
                  have u3 := belowCell HC.out u3 hb'
                  go_wp2_with fail
                  refine Calls.mono (sxput1_c _ u.data _ B2 m2 b2 _ base HO.out (Rep.sl_below HPU.out.2.1 HC.out fun _ h => h) hz2 (HT.out.on (HB.out.trans HC.out)) (by simp only [List.length_append, List.length_singleton]; omega) (by have := HD2.out; omega)) ?_
                  rintro e w2 ⟨v2, rfl, ho2, hg2, hf2⟩
                  have HI0 := Lib.hid (item_kept HI0.out HO.out hg2 hz2 (by decide))
                  have HC := Lib.hid (HC.out.grown hg2 hz2 fun k hk => (Rep.own_lt HO.out k hk).1)
                  have u2 := belowCell (((Below.refl base wy).grown hg2 hz2 fun k hk => (Rep.own_lt HO.out k hk).1)) u2 hb'
                  (try have c93 := box_grown c93 hg2 (fun e => by have := nc93 _ e.symm; omega))
                  have hz2 := Nat.le_trans hz2 hg2.size
                  have HO := Lib.hid ho2
                  clear hg2 hf2 ho2
                  generalize w2 = wy at *
                  have e2 := own_lenV HO.out
                  have HB2 := Lib.hid (HB.out.trans HC.out)
                  have e3 : (xs ++ [91] ++ textB u.hint ++ [93] ++ textB u.data).length = xs.length + 2 + (textB u.hint).length + (textB u.data).length := by simp; omega
                  clear u2 u3 u4
                  generalize (textB u.data) = D at *
                  generalize (textB u.hint) = H at *
                  go_wp2
                  go_roundw
                  case rel => exact ⟨_, l', HO.out, HI0.out, HQ4.out, HB2.out⟩
                  case measure => rw [e0, e2, e3]; omega
              · go_simp
                have hBa := Below.alloc (Below.refl wy.heap.size wy) (Nat.le_refl _) (.cells #[.int .u8 93] 5)
                have hcn := box_new wy #[.int .u8 93] 5
                have hnn := Rep.own_lt HO.out
                have HO := Lib.hid (Rep.own_later HO.out hBa)
                have HI0 := Lib.hid (item_later HI0.out hBa hz2)
                have HC := Lib.hid (HC.out.trans (hBa.mono hz2))
                have u2 := belowCell (hBa.mono hz2) u2 hb'
                (try have c91 := box_below c91 hBa (Array.getElem?_eq_some_iff.1 c91).1)
                (try have c93 := box_below c93 hBa (Array.getElem?_eq_some_iff.1 c93).1)
                have hz2 := Nat.le_trans hz2 hBa.size
                have c93 := hcn
                clear hBa hcn
                generalize hgc93 : wy.heap.size = g93 at *
                generalize wy.alloc (.cells #[.int .u8 93] 5) = wy at *
                have nc93 := hnn
                clear hnn
                have hS := u2
                refine hK.out _ _ (fun _ => u2) ?_
                clear hK K
                (try simp only [List.getElem_toArray, List.getElem_cons_zero, List.getElem_cons_succ, Act.put, List.setIfInBounds_toArray, List.set_cons_zero, List.set_cons_succ])
                refine wpAnyD_all (rs := [2]) (by kernel_rfl) (by simp) (AllD.cons rfl (by rfl) (fun K hK => ?_) AllD.nil)
                refine wp_app1 TB _ _ rfl (by rfl) HO.out [_] 91 (by rfl) (box_cells c91) (rd_u8 rfl) (by omega) (by omega) hz2 (fun _ (h : False) => h.elim) ?_
                intro v2 w2 ho2 hg2 hf2
                (try have nd93 : ∀ k, v2.ownBlock = some k → base ≤ k ∧ k ≠ g93 := fun k hk => by rcases hf2 with h | h; (rw [h] at hk; have := nc93 _ hk; omega); (rw [h] at hk; injection hk with hk; have := (Array.getElem?_eq_some_iff.1 c93).1; have := (Rep.own_lt ho2 k (by rw [h, hk])).1; omega))
                have HI0 := Lib.hid (item_kept HI0.out HO.out hg2 hz2 (by decide))
                have HC := Lib.hid (HC.out.grown hg2 hz2 fun k hk => (Rep.own_lt HO.out k hk).1)
                have u2 := belowCell (((Below.refl base wy).grown hg2 hz2 fun k hk => (Rep.own_lt HO.out k hk).1)) u2 hb'
                (try have c93 := box_grown c93 hg2 (fun e => by have := nc93 _ e.symm; omega))
                have hz2 := Nat.le_trans hz2 hg2.size
                have HO := Lib.hid ho2
                clear hg2 hf2 ho2
                generalize w2 = wy at *
                (try have nc93 := nd93)
                have hS := u2
                refine hK.out _ _ (fun _ => u2) ?_
                clear hK K
                (try simp only [List.getElem_toArray, List.getElem_cons_zero, List.getElem_cons_succ, Act.put, List.setIfInBounds_toArray, List.set_cons_zero, List.set_cons_succ])
                refine wpAnyD_all (rs := [7]) (by kernel_rfl) (by simp) (AllD.cons rfl (by rfl) (fun K hK => ?_) AllD.nil)
                go_simp
                refine Calls.mono (sxput1_c _ u.hint _ B1 m1 b1 _ base HO.out (Rep.sl_below HPU.out.1 HC.out fun _ h => h) hz2 (HT.out.on (HB.out.trans HC.out)) (by simp only [List.length_append, List.length_singleton]; omega) (by have := HD1.out; omega)) ?_
                rintro e w2 ⟨v2, rfl, ho2, hg2, hf2⟩
                have HI0 := Lib.hid (item_kept HI0.out HO.out hg2 hz2 (by decide))
                have HC := Lib.hid (HC.out.grown hg2 hz2 fun k hk => (Rep.own_lt HO.out k hk).1)
                have u2 := belowCell (((Below.refl base wy).grown hg2 hz2 fun k hk => (Rep.own_lt HO.out k hk).1)) u2 hb'
                (try have c93 := box_grown c93 hg2 (fun e => by have := nc93 _ e.symm; omega))
                have hz2 := Nat.le_trans hz2 hg2.size
                have HO := Lib.hid ho2
                clear hg2 hf2 ho2
                generalize w2 = wy at *
                have hS := u2
                refine hK.out _ _ (fun _ => u2) ?_
                clear hK K
                (try simp only [List.getElem_toArray, List.getElem_cons_zero, List.getElem_cons_succ, Act.put, List.setIfInBounds_toArray, List.set_cons_zero, List.set_cons_succ])
                refine wpAnyD_all (rs := [9]) (by kernel_rfl) (by simp) (AllD.cons rfl (by rfl) (fun K hK => ?_) AllD.nil)
                refine wp_app1 TB _ _ rfl (by rfl) HO.out [_] 93 (by rfl) (box_cells c93) (rd_u8 rfl) (by simp only [List.length_append, List.length_singleton]; omega) (by simp only [List.length_append, List.length_singleton]; omega) hz2 (fun _ (h : False) => h.elim) ?_
                intro v2 w2 ho2 hg2 hf2
                have HI0 := Lib.hid (item_kept HI0.out HO.out hg2 hz2 (by decide))
                have HC := Lib.hid (HC.out.grown hg2 hz2 fun k hk => (Rep.own_lt HO.out k hk).1)
                have u2 := belowCell (((Below.refl base wy).grown hg2 hz2 fun k hk => (Rep.own_lt HO.out k hk).1)) u2 hb'
                (try have c93 := box_grown c93 hg2 (fun e => by have := nc93 _ e.symm; omega))
                have hz2 := Nat.le_trans hz2 hg2.size
                have HO := Lib.hid ho2
                clear hg2 hf2 ho2
                generalize w2 = wy at *
                have hS := u2
                refine hK.out _ _ (fun _ => u2) ?_
                clear hK K
                (try simp only [List.getElem_toArray, List.getElem_cons_zero, List.getElem_cons_succ, Act.put, List.setIfInBounds_toArray, List.set_cons_zero, List.set_cons_succ])
                refine wpAnyD_take (i := 10) (v := ?_) rfl (by kernel_rfl) (by kernel_rfl) (by kernel_rfl) (by kernel_rfl) (fun _ _ _ h => by first | exact h | cases h.1) (by rfl) (by kernel_rfl) (Or.inl ⟨by rfl, ?_⟩) (by first | exact HS.out | exact hS | exact hdx | exact ⟨hdx, hkx⟩) ?_
                rotate_left
                · (intro w' hw'; (try dsimp only at hw'); skip; go_simp; first | done | with_reducible rfl)
                (try simp only [List.getElem_toArray, List.getElem_cons_zero, List.getElem_cons_succ, Act.put, List.setIfInBounds_toArray, List.set_cons_zero, List.set_cons_succ])
                refine wpAnyD_done (by kernel_rfl) ?_ _
                have u3 := belowCell HC.out u3 hb'
                go_wp2_with fail
                refine Calls.mono (sxput1_c _ u.data _ B2 m2 b2 _ base HO.out (Rep.sl_below HPU.out.2.1 HC.out fun _ h => h) hz2 (HT.out.on (HB.out.trans HC.out)) (by simp only [List.length_append, List.length_singleton]; omega) (by have := HD2.out; omega)) ?_
                rintro e w2 ⟨v2, rfl, ho2, hg2, hf2⟩
                have HI0 := Lib.hid (item_kept HI0.out HO.out hg2 hz2 (by decide))
                have HC := Lib.hid (HC.out.grown hg2 hz2 fun k hk => (Rep.own_lt HO.out k hk).1)
                have u2 := belowCell (((Below.refl base wy).grown hg2 hz2 fun k hk => (Rep.own_lt HO.out k hk).1)) u2 hb'
                (try have c93 := box_grown c93 hg2 (fun e => by have := nc93 _ e.symm; omega))
                have hz2 := Nat.le_trans hz2 hg2.size
                have HO := Lib.hid ho2
                clear hg2 hf2 ho2
                generalize w2 = wy at *
                have e2 := own_lenV HO.out
                have HB2 := Lib.hid (HB.out.trans HC.out)
                have e3 : (xs ++ [91] ++ textB u.hint ++ [93] ++ textB u.data).length = xs.length + 2 + (textB u.hint).length + (textB u.data).length := by simp; omega
                clear u2 u3 u4
                generalize (textB u.data) = D at *
                generalize (textB u.hint) = H at *
                go_wp2
                go_roundw
                case rel => exact ⟨_, l', HO.out, HI0.out, HQ4.out, HB2.out⟩
                case measure => rw [e0, e2, e3]; omega
            · go_simp
              have hBa := Below.alloc (Below.refl wy.heap.size wy) (Nat.le_refl _) (.cells #[.int .u8 93] 5)
              have hcn := box_new wy #[.int .u8 93] 5
              have hnn := Rep.own_lt HO.out
              have HO := Lib.hid (Rep.own_later HO.out hBa)
              have HI0 := Lib.hid (item_later HI0.out hBa hz2)
              have HC := Lib.hid (HC.out.trans (hBa.mono hz2))
              have u2 := belowCell (hBa.mono hz2) u2 hb'
              (try have c91 := box_below c91 hBa (Array.getElem?_eq_some_iff.1 c91).1)
              (try have c93 := box_below c93 hBa (Array.getElem?_eq_some_iff.1 c93).1)
              have hz2 := Nat.le_trans hz2 hBa.size
              have c93 := hcn
              clear hBa hcn
              generalize hgc93 : wy.heap.size = g93 at *
              generalize wy.alloc (.cells #[.int .u8 93] 5) = wy at *
              have nc93 := hnn
              clear hnn
              have hS := u2
              refine hK.out _ _ (fun _ => u2) ?_
              clear hK K
              (try simp only [List.getElem_toArray, List.getElem_cons_zero, List.getElem_cons_succ, Act.put, List.setIfInBounds_toArray, List.set_cons_zero, List.set_cons_succ])
              refine wpAnyD_all (rs := [1]) (by kernel_rfl) (by simp) (AllD.cons rfl (by rfl) (fun K hK => ?_) AllD.nil)
              go_simp
              have hBa := Below.alloc (Below.refl wy.heap.size wy) (Nat.le_refl _) (.cells #[.int .u8 91] 5)
              have hcn := box_new wy #[.int .u8 91] 5
              have hnn := Rep.own_lt HO.out
              have HO := Lib.hid (Rep.own_later HO.out hBa)
              have HI0 := Lib.hid (item_later HI0.out hBa hz2)
              have HC := Lib.hid (HC.out.trans (hBa.mono hz2))
              have u2 := belowCell (hBa.mono hz2) u2 hb'
              (try have c91 := box_below c91 hBa (Array.getElem?_eq_some_iff.1 c91).1)
              (try have c93 := box_below c93 hBa (Array.getElem?_eq_some_iff.1 c93).1)
              have hz2 := Nat.le_trans hz2 hBa.size
              have c91 := hcn
              clear hBa hcn
              generalize hgc91 : wy.heap.size = g91 at *
              generalize wy.alloc (.cells #[.int .u8 91] 5) = wy at *
              have nc91 := hnn
              clear hnn
              have hS := u2
              refine hK.out _ _ (fun _ => u2) ?_
              clear hK K
              (try simp only [List.getElem_toArray, List.getElem_cons_zero, List.getElem_cons_succ, Act.put, List.setIfInBounds_toArray, List.set_cons_zero, List.set_cons_succ])
              refine wpAnyD_all (rs := [2]) (by kernel_rfl) (by simp) (AllD.cons rfl (by rfl) (fun K hK => ?_) AllD.nil)
              refine wp_app1 TB _ _ rfl (by rfl) HO.out [_] 91 (by rfl) (box_cells c91) (rd_u8 rfl) (by omega) (by omega) hz2 (fun _ (h : False) => h.elim) ?_
              intro v2 w2 ho2 hg2 hf2
              (try have nd93 : ∀ k, v2.ownBlock = some k → base ≤ k ∧ k ≠ g93 := fun k hk => by rcases hf2 with h | h; (rw [h] at hk; have := nc93 _ hk; omega); (rw [h] at hk; injection hk with hk; have := (Array.getElem?_eq_some_iff.1 c93).1; have := (Rep.own_lt ho2 k (by rw [h, hk])).1; omega))
              have HI0 := Lib.hid (item_kept HI0.out HO.out hg2 hz2 (by decide))
              have HC := Lib.hid (HC.out.grown hg2 hz2 fun k hk => (Rep.own_lt HO.out k hk).1)
              have u2 := belowCell (((Below.refl base wy).grown hg2 hz2 fun k hk => (Rep.own_lt HO.out k hk).1)) u2 hb'
              (try have c93 := box_grown c93 hg2 (fun e => by have := nc93 _ e.symm; omega))
              have hz2 := Nat.le_trans hz2 hg2.size
              have HO := Lib.hid ho2
              clear hg2 hf2 ho2
              generalize w2 = wy at *
              (try have nc93 := nd93)
              have hS := u2
              refine hK.out _ _ (fun _ => u2) ?_
              clear hK K
              (try simp only [List.getElem_toArray, List.getElem_cons_zero, List.getElem_cons_succ, Act.put, List.setIfInBounds_toArray, List.set_cons_zero, List.set_cons_succ])
              refine wpAnyD_all (rs := [7]) (by kernel_rfl) (by simp) (AllD.cons rfl (by rfl) (fun K hK => ?_) AllD.nil)
              go_simp
              refine Calls.mono (sxput1_c _ u.hint _ B1 m1 b1 _ base HO.out (Rep.sl_below HPU.out.1 HC.out fun _ h => h) hz2 (HT.out.on (HB.out.trans HC.out)) (by simp only [List.length_append, List.length_singleton]; omega) (by have := HD1.out; omega)) ?_
              rintro e w2 ⟨v2, rfl, ho2, hg2, hf2⟩
              have HI0 := Lib.hid (item_kept HI0.out HO.out hg2 hz2 (by decide))
              have HC := Lib.hid (HC.out.grown hg2 hz2 fun k hk => (Rep.own_lt HO.out k hk).1)
              have u2 := belowCell (((Below.refl base wy).grown hg2 hz2 fun k hk => (Rep.own_lt HO.out k hk).1)) u2 hb'
              (try have c93 := box_grown c93 hg2 (fun e => by have := nc93 _ e.symm; omega))
              have hz2 := Nat.le_trans hz2 hg2.size
              have HO := Lib.hid ho2
              clear hg2 hf2 ho2
              generalize w2 = wy at *
              have hS := u2
              refine hK.out _ _ (fun _ => u2) ?_
              clear hK K
              (try simp only [List.getElem_toArray, List.getElem_cons_zero, List.getElem_cons_succ, Act.put, List.setIfInBounds_toArray, List.set_cons_zero, List.set_cons_succ])
              refine wpAnyD_all (rs := [9]) (by kernel_rfl) (by simp) (AllD.cons rfl (by rfl) (fun K hK => ?_) AllD.nil)
              refine wp_app1 TB _ _ rfl (by rfl) HO.out [_] 93 (by rfl) (box_cells c93) (rd_u8 rfl) (by simp only [List.length_append, List.length_singleton]; omega) (by simp only [List.length_append, List.length_singleton]; omega) hz2 (fun _ (h : False) => h.elim) ?_
              intro v2 w2 ho2 hg2 hf2
              have HI0 := Lib.hid (item_kept HI0.out HO.out hg2 hz2 (by decide))
              have HC := Lib.hid (HC.out.grown hg2 hz2 fun k hk => (Rep.own_lt HO.out k hk).1)
              have u2 := belowCell (((Below.refl base wy).grown hg2 hz2 fun k hk => (Rep.own_lt HO.out k hk).1)) u2 hb'
              (try have c93 := box_grown c93 hg2 (fun e => by have := nc93 _ e.symm; omega))
              have hz2 := Nat.le_trans hz2 hg2.size
              have HO := Lib.hid ho2
              clear hg2 hf2 ho2
              generalize w2 = wy at *
              have hS := u2
              refine hK.out _ _ (fun _ => u2) ?_
              clear hK K
              (try simp only [List.getElem_toArray, List.getElem_cons_zero, List.getElem_cons_succ, Act.put, List.setIfInBounds_toArray, List.set_cons_zero, List.set_cons_succ])
              refine wpAnyD_take (i := 10) (v := ?_) rfl (by kernel_rfl) (by kernel_rfl) (by kernel_rfl) (by kernel_rfl) (fun _ _ _ h => by first | exact h | cases h.1) (by rfl) (by kernel_rfl) (Or.inl ⟨by rfl, ?_⟩) (by first | exact HS.out | exact hS | exact hdx | exact ⟨hdx, hkx⟩) ?_
              rotate_left
              · (intro w' hw'; (try dsimp only at hw'); skip; go_simp; first | done | with_reducible rfl)
              (try simp only [List.getElem_toArray, List.getElem_cons_zero, List.getElem_cons_succ, Act.put, List.setIfInBounds_toArray, List.set_cons_zero, List.set_cons_succ])
              refine wpAnyD_done (by kernel_rfl) ?_ _
              have u3 := belowCell HC.out u3 hb'
              go_wp2_with fail
              refine Calls.mono (sxput1_c _ u.data _ B2 m2 b2 _ base HO.out (Rep.sl_below HPU.out.2.1 HC.out fun _ h => h) hz2 (HT.out.on (HB.out.trans HC.out)) (by simp only [List.length_append, List.length_singleton]; omega) (by have := HD2.out; omega)) ?_
              rintro e w2 ⟨v2, rfl, ho2, hg2, hf2⟩
              have HI0 := Lib.hid (item_kept HI0.out HO.out hg2 hz2 (by decide))
              have HC := Lib.hid (HC.out.grown hg2 hz2 fun k hk => (Rep.own_lt HO.out k hk).1)
              have u2 := belowCell (((Below.refl base wy).grown hg2 hz2 fun k hk => (Rep.own_lt HO.out k hk).1)) u2 hb'
              (try have c93 := box_grown c93 hg2 (fun e => by have := nc93 _ e.symm; omega))
              have hz2 := Nat.le_trans hz2 hg2.size
              have HO := Lib.hid ho2
              clear hg2 hf2 ho2
              generalize w2 = wy at *
              have e2 := own_lenV HO.out
              have HB2 := Lib.hid (HB.out.trans HC.out)
              have e3 : (xs ++ [91] ++ textB u.hint ++ [93] ++ textB u.data).length = xs.length + 2 + (textB u.hint).length + (textB u.data).length := by simp; omega
              clear u2 u3 u4
              generalize (textB u.data) = D at *
              generalize (textB u.hint) = H at *
              go_wp2
              go_roundw
              case rel => exact ⟨_, l', HO.out, HI0.out, HQ4.out, HB2.out⟩
              case measure => rw [e0, e2, e3]; omega
end Go.Proofs.YtdakeodebgggfaaDoor
