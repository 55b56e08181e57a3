/- A signed value of a value, as the reference gets it. -/
import Derived.Test.YtdakeodebgggfaaDoorUj
namespace Go.Proofs.YtdakeodebgggfaaDoor
open Go.RowKit
set_option linter.unusedVariables false
set_option linter.unusedSimpArgs false

noncomputable def rsget (v : Tree) : Option Sgn := if v.may && headB v tSigned && v.kids.length == 4 && (rgetK (v.kid 2)).isSome && !(keyOr (rgetK (v.kid 2))).1 && plainB (v.kid 3) 64 then some (v.kid 1, (keyOr (rgetK (v.kid 2))).2, (v.kid 3).data) else none
set_option maxHeartbeats 4000000 in
set_option maxRecDepth 100000 in
theorem rsget_c (v : Tree) (w : World) (S : Nat → Prop) (hS : ∀ b, S b → b < w.heap.size) (cs : List Value) (h : Rep.tree.rd w S cs v) (hw : v.wt ≤ 2000000) :
    Calls Tryd.prog 12 #[.agg cs.toArray] w (SignPost w S ((rsget v).getD zeroS) (.bool (rsget v).isSome)) := by
  obtain ⟨A1, n1, c1, A2, n2, c2, A3, n3, c3, rfl, hp⟩ := Rep.tree_open h
  have HPS := Lib.hid hp
  have HP := Lib.hid (hp.more (S' := fun b => b < w.heap.size) hS)
  have HN := Lib.hid hp.2.2.1
  have HX := Lib.hid ((Below.alloc (Below.refl _ w) (Nat.le_refl _) (.cells #[.bool v.list, .bool v.hinted, .slice A1 n1 c1, .slice A2 n2 c2, .slice A3 n3 c3] 25)).alloc (by simp only [World.size_alloc]; omega) (.cells #[.bool false, .bool false, .slice none 0 0, .slice none 0 0, .slice none 0 0, .slice none 0 0, .slice none 0 0] 29))
  have hdx := box_alloc (box_new w #[.bool v.list, .bool v.hinted, .slice A1 n1 c1, .slice A2 n2 c2, .slice A3 n3 c3] 25) (.cells #[.bool false, .bool false, .slice none 0 0, .slice none 0 0, .slice none 0 0, .slice none 0 0, .slice none 0 0] 29)
  have hrx := box_new1 (w := w) (o := .cells #[.bool v.list, .bool v.hinted, .slice A1 n1 c1, .slice A2 n2 c2, .slice A3 n3 c3] 25) (cs := #[.bool false, .bool false, .slice none 0 0, .slice none 0 0, .slice none 0 0, .slice none 0 0, .slice none 0 0]) (t := 29)
  have hz : w.heap.size + 2 ≤ ((w.alloc (.cells #[.bool v.list, .bool v.hinted, .slice A1 n1 c1, .slice A2 n2 c2, .slice A3 n3 c3] 25)).alloc (.cells #[.bool false, .bool false, .slice none 0 0, .slice none 0 0, .slice none 0 0, .slice none 0 0, .slice none 0 0] 29)).heap.size := by simp only [World.size_alloc]; omega
  have hnc := hp.2.2.2.1
  clear h
  generalize hpo : (rsget v).isSome = ek
  have HEK := Lib.hid hpo
  clear hpo
  go_enter Tryd.func12, Tryd.ntmps12
  go_upto_region 1 with fail
  generalize (w.alloc (.cells #[.bool v.list, .bool v.hinted, .slice A1 n1 c1, .slice A2 n2 c2, .slice A3 n3 c3] 25)).alloc (.cells #[.bool false, .bool false, .slice none 0 0, .slice none 0 0, .slice none 0 0, .slice none 0 0, .slice none 0 0] 29) = wx at *
  have q0 := (boxed hdx) 0 _ rfl; have q1 := (boxed hdx) 1 _ rfl; have q2 := (boxed hdx) 2 _ rfl; have q3 := (boxed hdx) 3 _ rfl; have q4 := (boxed hdx) 4 _ rfl
  go_wp2_with fail
  refine Calls.mono (may_c v _ _ (HP.out.later HX.out).rd (by omega)) ?_
  rintro e wx ⟨rfl, hB⟩
  clear q0 q1 q2 q3 q4
  (try have HL2 := Lib.hid (slKeepS HL2.out hB (by intro b hb; first | omega | (simp only [false_or] at hb; omega))))
  (try have HS := Lib.hid (HS.out.trans (hB.mono (by omega))))
  (try have HK := Lib.hid (slKeepS HK.out hB (by intro b hb; first | omega | (have := hS b hb; omega))))
  (try have pa := pa.keepS hB (by intro b hb; first | omega | (simp only [false_or] at hb; omega)))
  (try have pb := pb.keepS hB (by intro b hb; first | omega | (simp only [false_or] at hb; omega)))
  (try have pc := pc.keepS hB (by intro b hb; first | omega | (simp only [false_or] at hb; omega)))
  (try have pd := pd.keepS hB (by intro b hb; first | omega | (simp only [false_or] at hb; omega)))
  (try have pe := pe.keepS hB (by intro b hb; first | omega | (simp only [false_or] at hb; omega)))
  (try have HE := Lib.hid (slKeepS HE.out hB (by intro b hb; first | omega | (simp only [false_or] at hb; omega))))
  (try have HL := Lib.hid (slKeepS HL.out hB (by intro b hb; first | omega | (simp only [false_or] at hb; omega))))
  (try have hdx := box_below hdx hB (Array.getElem?_eq_some_iff.1 hdx).1)
  (try have hrx := box_below hrx hB (Array.getElem?_eq_some_iff.1 hrx).1)
  (try have hkx := box_below hkx hB (Array.getElem?_eq_some_iff.1 hkx).1)
  (try have hix := box_below hix hB (Array.getElem?_eq_some_iff.1 hix).1)
  (try have hjx := box_below hjx hB (Array.getElem?_eq_some_iff.1 hjx).1)
  have HX := Lib.hid (below_then HX.out hB)
  have hz := hB.size
  clear hB
  cases hmy : v.may with
  | false =>
    have HG : Hid (rsget v = none ∧ ek = false) := by
      have : rsget v = none := by rw [rsget, hmy]; rfl
      exact ⟨this, by rw [← HEK.out, this]; rfl⟩
    clear hp hmy
    have q0 := (boxed hdx) 0 _ rfl; have q1 := (boxed hdx) 1 _ rfl; have q2 := (boxed hdx) 2 _ rfl; have q3 := (boxed hdx) 3 _ rfl; have q4 := (boxed hdx) 4 _ rfl
    have hr0 := (boxed hrx) 0 _ rfl; have hr1 := (boxed hrx) 1 _ rfl; have hr2 := (boxed hrx) 2 _ rfl; have hr3 := (boxed hrx) 3 _ rfl; have hr4 := (boxed hrx) 4 _ rfl; have hr5 := (boxed hrx) 5 _ rfl; have hr6 := (boxed hrx) 6 _ rfl
    have hf0 := boxed_frozen hrx 0; have hf1 := boxed_frozen hrx 1; have hf2 := boxed_frozen hrx 2; have hf3 := boxed_frozen hrx 3; have hf4 := boxed_frozen hrx 4; have hf5 := boxed_frozen hrx 5; have hf6 := boxed_frozen hrx 6
    go_wp2
    rw [HG.out.1, HG.out.2]
    exact sign_ret2 (s := zeroS) (w2 := wx) (g := w.heap.size + 1) (by simp [results, Tryd.results12, go_sem, put7, signV, zeroS, zeroT, Tree.list, Tree.hinted, hr0, hr1, hr2, hr3, hr4, hr5, hr6]) rfl zeroS_parts (fun b (hb : False) => hb.elim) HX.out (by omega) (by omega)
  | true =>
  have q0 := (boxed hdx) 0 _ rfl; have q1 := (boxed hdx) 1 _ rfl; have q2 := (boxed hdx) 2 _ rfl; have q3 := (boxed hdx) 3 _ rfl; have q4 := (boxed hdx) 4 _ rfl
  go_wp2_with fail
  refine Calls.mono (headref_c v tSigned _ _ (HP.out.later HX.out).rd) ?_
  rintro e wx ⟨rfl, hB⟩
  clear q0 q1 q2 q3 q4
  (try have HL2 := Lib.hid (slKeepS HL2.out hB (by intro b hb; first | omega | (simp only [false_or] at hb; omega))))
  (try have HS := Lib.hid (HS.out.trans (hB.mono (by omega))))
  (try have HK := Lib.hid (slKeepS HK.out hB (by intro b hb; first | omega | (have := hS b hb; omega))))
  (try have pa := pa.keepS hB (by intro b hb; first | omega | (simp only [false_or] at hb; omega)))
  (try have pb := pb.keepS hB (by intro b hb; first | omega | (simp only [false_or] at hb; omega)))
  (try have pc := pc.keepS hB (by intro b hb; first | omega | (simp only [false_or] at hb; omega)))
  (try have pd := pd.keepS hB (by intro b hb; first | omega | (simp only [false_or] at hb; omega)))
  (try have pe := pe.keepS hB (by intro b hb; first | omega | (simp only [false_or] at hb; omega)))
  (try have HE := Lib.hid (slKeepS HE.out hB (by intro b hb; first | omega | (simp only [false_or] at hb; omega))))
  (try have HL := Lib.hid (slKeepS HL.out hB (by intro b hb; first | omega | (simp only [false_or] at hb; omega))))
  (try have hdx := box_below hdx hB (Array.getElem?_eq_some_iff.1 hdx).1)
  (try have hrx := box_below hrx hB (Array.getElem?_eq_some_iff.1 hrx).1)
  (try have hkx := box_below hkx hB (Array.getElem?_eq_some_iff.1 hkx).1)
  (try have hix := box_below hix hB (Array.getElem?_eq_some_iff.1 hix).1)
  (try have hjx := box_below hjx hB (Array.getElem?_eq_some_iff.1 hjx).1)
  have HX := Lib.hid (below_then HX.out hB)
  have hz := hB.size
  clear hB
  cases hhd : headB v tSigned with
  | false =>
    have HG : Hid (rsget v = none ∧ ek = false) := by
      have : rsget v = none := by rw [rsget, hhd, hmy]; rfl
      exact ⟨this, by rw [← HEK.out, this]; rfl⟩
    clear hp hmy hhd
    have q0 := (boxed hdx) 0 _ rfl; have q1 := (boxed hdx) 1 _ rfl; have q2 := (boxed hdx) 2 _ rfl; have q3 := (boxed hdx) 3 _ rfl; have q4 := (boxed hdx) 4 _ rfl
    have hr0 := (boxed hrx) 0 _ rfl; have hr1 := (boxed hrx) 1 _ rfl; have hr2 := (boxed hrx) 2 _ rfl; have hr3 := (boxed hrx) 3 _ rfl; have hr4 := (boxed hrx) 4 _ rfl; have hr5 := (boxed hrx) 5 _ rfl; have hr6 := (boxed hrx) 6 _ rfl
    have hf0 := boxed_frozen hrx 0; have hf1 := boxed_frozen hrx 1; have hf2 := boxed_frozen hrx 2; have hf3 := boxed_frozen hrx 3; have hf4 := boxed_frozen hrx 4; have hf5 := boxed_frozen hrx 5; have hf6 := boxed_frozen hrx 6
    go_wp2
    rw [HG.out.1, HG.out.2]
    exact sign_ret2 (s := zeroS) (w2 := wx) (g := w.heap.size + 1) (by simp [results, Tryd.results12, go_sem, put7, signV, zeroS, zeroT, Tree.list, Tree.hinted, hr0, hr1, hr2, hr3, hr4, hr5, hr6]) rfl zeroS_parts (fun b (hb : False) => hb.elim) HX.out (by omega) (by omega)
  | true =>
  by_cases h4 : n3 = 4
  · have h4' : (n3 : Int) = 4 := by rw [h4]; rfl
    have h4n : 3 < n3 := by omega
    have HC : Hid (rsget v = if (rgetK (v.kid 2)).isSome && !(keyOr (rgetK (v.kid 2))).1 && plainB (v.kid 3) 64 then some (v.kid 1, (keyOr (rgetK (v.kid 2))).2, (v.kid 3).data) else none) := by
      show _ = _
      rw [rsget, hhd, hmy, HN.out, h4]
      rfl
    clear h4 hhd hmy
    obtain ⟨kba, koa, aA1, an1, ac1, aA2, an2, ac2, aA3, an3, ac3, hAa, hba, hpa, a0, a1, a2, a3, a4⟩ := kid_at' (t := v) (k := 1) hp.2.2 (by omega)
    simp only [show 1 * 5 = 5 from rfl, Nat.add_assoc, Nat.reduceAdd] at a0 a1 a2 a3 a4
    obtain ⟨kbk, kok, kA1, kn1, kc1, kA2, kn2, kc2, kA3, kn3, kc3, hAk, hbk, hpk, k0, k1, k2, k3, k4⟩ := kid_at' (t := v) (k := 2) hp.2.2 (by omega)
    simp only [show 2 * 5 = 10 from rfl, Nat.add_assoc, Nat.reduceAdd] at k0 k1 k2 k3 k4
    obtain ⟨kbd, kod, dA1, dn1, dc1, dA2, dn2, dc2, dA3, dn3, dc3, hAd, hbd, hpd, d0, d1, d2, d3, d4⟩ := kid_at' (t := v) (k := 3) hp.2.2 (by omega)
    simp only [show 3 * 5 = 15 from rfl, Nat.add_assoc, Nat.reduceAdd] at d0 d1 d2 d3 d4
    rw [hAa] at hAk hAd
    injection hAk with hAk
    injection hAk with e1 e2 _
    subst e1 e2
    injection hAd with hAd
    injection hAd with e1 e2 _
    subst e1 e2
    subst hAa
    have HKA := Lib.hid hpa
    have HKK := Lib.hid hpk
    have HKD := Lib.hid hpd
    have hba := hS _ hba
    clear hp hpa hpk hpd hbk hbd
    have q0 := (boxed hdx) 0 _ rfl; have q1 := (boxed hdx) 1 _ rfl; have q2 := (boxed hdx) 2 _ rfl; have q3 := (boxed hdx) 3 _ rfl; have q4 := (boxed hdx) 4 _ rfl
    have m0 := belowCell HX.out k0 hba; have m1 := belowCell HX.out k1 hba; have m2 := belowCell HX.out k2 hba; have m3 := belowCell HX.out k3 hba; have m4 := belowCell HX.out k4 hba
    go_wp2_with fail
    refine Calls.mono (rkget_S (v.kid 2) _ S (fun b hb => by have := hS b hb; omega) _ (HKK.out.keepS HX.out hS).rd) ?_
    rintro e wx ⟨kA, kn, kc, rfl, hk, hB⟩
    clear q0 q1 q2 q3 q4 m0 m1 m2 m3 m4
    (try have HL2 := Lib.hid (slKeepS HL2.out hB (by intro b hb; first | omega | (simp only [false_or] at hb; omega))))
    (try have HS := Lib.hid (HS.out.trans (hB.mono (by omega))))
    (try have HK := Lib.hid (slKeepS HK.out hB (by intro b hb; first | omega | (have := hS b hb; omega))))
    (try have pa := pa.keepS hB (by intro b hb; first | omega | (simp only [false_or] at hb; omega)))
    (try have pb := pb.keepS hB (by intro b hb; first | omega | (simp only [false_or] at hb; omega)))
    (try have pc := pc.keepS hB (by intro b hb; first | omega | (simp only [false_or] at hb; omega)))
    (try have pd := pd.keepS hB (by intro b hb; first | omega | (simp only [false_or] at hb; omega)))
    (try have pe := pe.keepS hB (by intro b hb; first | omega | (simp only [false_or] at hb; omega)))
    (try have HE := Lib.hid (slKeepS HE.out hB (by intro b hb; first | omega | (simp only [false_or] at hb; omega))))
    (try have HL := Lib.hid (slKeepS HL.out hB (by intro b hb; first | omega | (simp only [false_or] at hb; omega))))
    (try have hdx := box_below hdx hB (Array.getElem?_eq_some_iff.1 hdx).1)
    (try have hrx := box_below hrx hB (Array.getElem?_eq_some_iff.1 hrx).1)
    (try have hkx := box_below hkx hB (Array.getElem?_eq_some_iff.1 hkx).1)
    (try have hix := box_below hix hB (Array.getElem?_eq_some_iff.1 hix).1)
    (try have hjx := box_below hjx hB (Array.getElem?_eq_some_iff.1 hjx).1)
    have HX := Lib.hid (below_then HX.out hB)
    have hz := hB.size
    have HK := Lib.hid hk
    clear hB hk
    generalize hks : (rgetK (v.kid 2)).isSome = ks at *
    generalize hkk : keyOr (rgetK (v.kid 2)) = kk at *
    go_upto_region 4 with fail
    have hB := Below.alloc (Below.refl wx.heap.size wx) (Nat.le_refl _) (.cells #[.bool kk.1, .slice kA kn kc] 38)
    have hbn := box_new wx #[.bool kk.1, .slice kA kn kc] 38
    (try have HL2 := Lib.hid (slKeepS HL2.out hB (by intro b hb; first | omega | (simp only [false_or] at hb; omega))))
    (try have HS := Lib.hid (HS.out.trans (hB.mono (by omega))))
    (try have HK := Lib.hid (slKeepS HK.out hB (by intro b hb; first | omega | (have := hS b hb; omega))))
    (try have pa := pa.keepS hB (by intro b hb; first | omega | (simp only [false_or] at hb; omega)))
    (try have pb := pb.keepS hB (by intro b hb; first | omega | (simp only [false_or] at hb; omega)))
    (try have pc := pc.keepS hB (by intro b hb; first | omega | (simp only [false_or] at hb; omega)))
    (try have pd := pd.keepS hB (by intro b hb; first | omega | (simp only [false_or] at hb; omega)))
    (try have pe := pe.keepS hB (by intro b hb; first | omega | (simp only [false_or] at hb; omega)))
    (try have HE := Lib.hid (slKeepS HE.out hB (by intro b hb; first | omega | (simp only [false_or] at hb; omega))))
    (try have HL := Lib.hid (slKeepS HL.out hB (by intro b hb; first | omega | (simp only [false_or] at hb; omega))))
    (try have hdx := box_below hdx hB (Array.getElem?_eq_some_iff.1 hdx).1)
    (try have hrx := box_below hrx hB (Array.getElem?_eq_some_iff.1 hrx).1)
    (try have hkx := box_below hkx hB (Array.getElem?_eq_some_iff.1 hkx).1)
    (try have hix := box_below hix hB (Array.getElem?_eq_some_iff.1 hix).1)
    (try have hjx := box_below hjx hB (Array.getElem?_eq_some_iff.1 hjx).1)
    have HX := Lib.hid (below_then HX.out hB)
    have hz := hB.size
    have hkx := hbn
    have hlgk3 := (Array.getElem?_eq_some_iff.1 hkx).1
    clear hB hbn
    generalize hggk3 : wx.heap.size = gk3 at *
    generalize wx.alloc (.cells #[.bool kk.1, .slice kA kn kc] 38) = wx at *
    have m0 := belowCell HX.out d0 hba; have m1 := belowCell HX.out d1 hba; have m2 := belowCell HX.out d2 hba; have m3 := belowCell HX.out d3 hba; have m4 := belowCell HX.out d4 hba
    have q0 := (boxed hdx) 0 _ rfl; have q1 := (boxed hdx) 1 _ rfl; have q2 := (boxed hdx) 2 _ rfl; have q3 := (boxed hdx) 3 _ rfl; have q4 := (boxed hdx) 4 _ rfl
    go_upto_region 5 with fail
    clear q0 q1 q2 q3 q4 m0 m1 m2 m3 m4
    have hB := Below.alloc (Below.refl wx.heap.size wx) (Nat.le_refl _) (.cells #[.bool (v.kid 3).list, .bool (v.kid 3).hinted, .slice dA1 dn1 dc1, .slice dA2 dn2 dc2, .slice dA3 dn3 dc3] 25)
    have hbn := box_new wx #[.bool (v.kid 3).list, .bool (v.kid 3).hinted, .slice dA1 dn1 dc1, .slice dA2 dn2 dc2, .slice dA3 dn3 dc3] 25
    (try have HL2 := Lib.hid (slKeepS HL2.out hB (by intro b hb; first | omega | (simp only [false_or] at hb; omega))))
    (try have HS := Lib.hid (HS.out.trans (hB.mono (by omega))))
    (try have HK := Lib.hid (slKeepS HK.out hB (by intro b hb; first | omega | (have := hS b hb; omega))))
    (try have pa := pa.keepS hB (by intro b hb; first | omega | (simp only [false_or] at hb; omega)))
    (try have pb := pb.keepS hB (by intro b hb; first | omega | (simp only [false_or] at hb; omega)))
    (try have pc := pc.keepS hB (by intro b hb; first | omega | (simp only [false_or] at hb; omega)))
    (try have pd := pd.keepS hB (by intro b hb; first | omega | (simp only [false_or] at hb; omega)))
    (try have pe := pe.keepS hB (by intro b hb; first | omega | (simp only [false_or] at hb; omega)))
    (try have HE := Lib.hid (slKeepS HE.out hB (by intro b hb; first | omega | (simp only [false_or] at hb; omega))))
    (try have HL := Lib.hid (slKeepS HL.out hB (by intro b hb; first | omega | (simp only [false_or] at hb; omega))))
    (try have hdx := box_below hdx hB (Array.getElem?_eq_some_iff.1 hdx).1)
    (try have hrx := box_below hrx hB (Array.getElem?_eq_some_iff.1 hrx).1)
    (try have hkx := box_below hkx hB (Array.getElem?_eq_some_iff.1 hkx).1)
    (try have hix := box_below hix hB (Array.getElem?_eq_some_iff.1 hix).1)
    (try have hjx := box_below hjx hB (Array.getElem?_eq_some_iff.1 hjx).1)
    have HX := Lib.hid (below_then HX.out hB)
    have hz := hB.size
    have hix := hbn
    have hlgk4 := (Array.getElem?_eq_some_iff.1 hix).1
    clear hB hbn
    generalize hggk4 : wx.heap.size = gk4 at *
    generalize wx.alloc (.cells #[.bool (v.kid 3).list, .bool (v.kid 3).hinted, .slice dA1 dn1 dc1, .slice dA2 dn2 dc2, .slice dA3 dn3 dc3] 25) = wx at *
    generalize hk1 : kk.1 = kb at *
    generalize hd1 : (v.kid 3).list = l3 at *
    generalize hd2 : (v.kid 3).hinted = h3 at *
    have HK1 := Lib.hid hk1
    have HD1 := Lib.hid hd1
    have HD2 := Lib.hid hd2
    clear hk1 hd1 hd2
    have p0 := (boxed hkx) 0 _ rfl; have p1 := (boxed hkx) 1 _ rfl
    have q0 := (boxed hix) 0 _ rfl; have q1 := (boxed hix) 1 _ rfl; have q2 := (boxed hix) 2 _ rfl; have q3 := (boxed hix) 3 _ rfl; have q4 := (boxed hix) 4 _ rfl
    cases ks with
    | false =>
      have HG : Hid (rsget v = none ∧ ek = false) := by
        have : rsget v = none := by rw [HC.out]; rfl
        exact ⟨this, by rw [← HEK.out, this]; rfl⟩
      have hr0 := (boxed hrx) 0 _ rfl; have hr1 := (boxed hrx) 1 _ rfl; have hr2 := (boxed hrx) 2 _ rfl; have hr3 := (boxed hrx) 3 _ rfl; have hr4 := (boxed hrx) 4 _ rfl; have hr5 := (boxed hrx) 5 _ rfl; have hr6 := (boxed hrx) 6 _ rfl
      have hf0 := boxed_frozen hrx 0; have hf1 := boxed_frozen hrx 1; have hf2 := boxed_frozen hrx 2; have hf3 := boxed_frozen hrx 3; have hf4 := boxed_frozen hrx 4; have hf5 := boxed_frozen hrx 5; have hf6 := boxed_frozen hrx 6
      go_wp2
      rw [HG.out.1, HG.out.2]
      exact sign_ret2 (s := zeroS) (w2 := wx) (g := w.heap.size + 1) (by simp [results, Tryd.results12, go_sem, put7, signV, zeroS, zeroT, Tree.list, Tree.hinted, hr0, hr1, hr2, hr3, hr4, hr5, hr6]) rfl zeroS_parts (fun b (hb : False) => hb.elim) HX.out (by omega) (by omega)
    | true =>
    cases kb with
    | true =>
      have HG : Hid (rsget v = none ∧ ek = false) := by
        have : rsget v = none := by rw [HC.out]; rfl
        exact ⟨this, by rw [← HEK.out, this]; rfl⟩
      have hr0 := (boxed hrx) 0 _ rfl; have hr1 := (boxed hrx) 1 _ rfl; have hr2 := (boxed hrx) 2 _ rfl; have hr3 := (boxed hrx) 3 _ rfl; have hr4 := (boxed hrx) 4 _ rfl; have hr5 := (boxed hrx) 5 _ rfl; have hr6 := (boxed hrx) 6 _ rfl
      have hf0 := boxed_frozen hrx 0; have hf1 := boxed_frozen hrx 1; have hf2 := boxed_frozen hrx 2; have hf3 := boxed_frozen hrx 3; have hf4 := boxed_frozen hrx 4; have hf5 := boxed_frozen hrx 5; have hf6 := boxed_frozen hrx 6
      go_wp2
      rw [HG.out.1, HG.out.2]
      exact sign_ret2 (s := zeroS) (w2 := wx) (g := w.heap.size + 1) (by simp [results, Tryd.results12, go_sem, put7, signV, zeroS, zeroT, Tree.list, Tree.hinted, hr0, hr1, hr2, hr3, hr4, hr5, hr6]) rfl zeroS_parts (fun b (hb : False) => hb.elim) HX.out (by omega) (by omega)
    | false =>
    cases l3 with
    | true =>
      have HG : Hid (rsget v = none ∧ ek = false) := by
        have : rsget v = none := by rw [HC.out, plainB, HD1.out]; rfl
        exact ⟨this, by rw [← HEK.out, this]; rfl⟩
      have hr0 := (boxed hrx) 0 _ rfl; have hr1 := (boxed hrx) 1 _ rfl; have hr2 := (boxed hrx) 2 _ rfl; have hr3 := (boxed hrx) 3 _ rfl; have hr4 := (boxed hrx) 4 _ rfl; have hr5 := (boxed hrx) 5 _ rfl; have hr6 := (boxed hrx) 6 _ rfl
      have hf0 := boxed_frozen hrx 0; have hf1 := boxed_frozen hrx 1; have hf2 := boxed_frozen hrx 2; have hf3 := boxed_frozen hrx 3; have hf4 := boxed_frozen hrx 4; have hf5 := boxed_frozen hrx 5; have hf6 := boxed_frozen hrx 6
      go_wp2
      rw [HG.out.1, HG.out.2]
      exact sign_ret2 (s := zeroS) (w2 := wx) (g := w.heap.size + 1) (by simp [results, Tryd.results12, go_sem, put7, signV, zeroS, zeroT, Tree.list, Tree.hinted, hr0, hr1, hr2, hr3, hr4, hr5, hr6]) rfl zeroS_parts (fun b (hb : False) => hb.elim) HX.out (by omega) (by omega)
    | false =>
    cases h3 with
    | true =>
      have HG : Hid (rsget v = none ∧ ek = false) := by
        have : rsget v = none := by rw [HC.out, plainB, HD1.out, HD2.out]; rfl
        exact ⟨this, by rw [← HEK.out, this]; rfl⟩
      have hr0 := (boxed hrx) 0 _ rfl; have hr1 := (boxed hrx) 1 _ rfl; have hr2 := (boxed hrx) 2 _ rfl; have hr3 := (boxed hrx) 3 _ rfl; have hr4 := (boxed hrx) 4 _ rfl; have hr5 := (boxed hrx) 5 _ rfl; have hr6 := (boxed hrx) 6 _ rfl
      have hf0 := boxed_frozen hrx 0; have hf1 := boxed_frozen hrx 1; have hf2 := boxed_frozen hrx 2; have hf3 := boxed_frozen hrx 3; have hf4 := boxed_frozen hrx 4; have hf5 := boxed_frozen hrx 5; have hf6 := boxed_frozen hrx 6
      go_wp2
      rw [HG.out.1, HG.out.2]
      exact sign_ret2 (s := zeroS) (w2 := wx) (g := w.heap.size + 1) (by simp [results, Tryd.results12, go_sem, put7, signV, zeroS, zeroT, Tree.list, Tree.hinted, hr0, hr1, hr2, hr3, hr4, hr5, hr6]) rfl zeroS_parts (fun b (hb : False) => hb.elim) HX.out (by omega) (by omega)
    | false =>
    by_cases hd3 : dn2 = 64
    · have hd3' : (dn2 : Int) = 64 := by omega
      have HG : Hid (rsget v = some (v.kid 1, kk.2, (v.kid 3).data)) := by
        show _ = _
        rw [HC.out, plainB, HD1.out, HD2.out, HKD.out.2.1.1, hd3]
        rfl
      have HE1 : Hid (ek = true) := by show _ = _; rw [← HEK.out, HG.out]; rfl
      clear hd3
      go_upto_region 7 with fail
      have hB := (Below.refl wx.heap.size wx).drew
      (try have HL2 := Lib.hid (slKeepS HL2.out hB (by intro b hb; first | omega | (simp only [false_or] at hb; omega))))
      (try have HS := Lib.hid (HS.out.trans (hB.mono (by omega))))
      (try have HK := Lib.hid (slKeepS HK.out hB (by intro b hb; first | omega | (have := hS b hb; omega))))
      (try have pa := pa.keepS hB (by intro b hb; first | omega | (simp only [false_or] at hb; omega)))
      (try have pb := pb.keepS hB (by intro b hb; first | omega | (simp only [false_or] at hb; omega)))
      (try have pc := pc.keepS hB (by intro b hb; first | omega | (simp only [false_or] at hb; omega)))
      (try have pd := pd.keepS hB (by intro b hb; first | omega | (simp only [false_or] at hb; omega)))
      (try have pe := pe.keepS hB (by intro b hb; first | omega | (simp only [false_or] at hb; omega)))
      (try have HE := Lib.hid (slKeepS HE.out hB (by intro b hb; first | omega | (simp only [false_or] at hb; omega))))
      (try have HL := Lib.hid (slKeepS HL.out hB (by intro b hb; first | omega | (simp only [false_or] at hb; omega))))
      (try have hdx := box_below hdx hB (Array.getElem?_eq_some_iff.1 hdx).1)
      (try have hrx := box_below hrx hB (Array.getElem?_eq_some_iff.1 hrx).1)
      (try have hkx := box_below hkx hB (Array.getElem?_eq_some_iff.1 hkx).1)
      (try have hix := box_below hix hB (Array.getElem?_eq_some_iff.1 hix).1)
      (try have hjx := box_below hjx hB (Array.getElem?_eq_some_iff.1 hjx).1)
      have HX := Lib.hid (below_then HX.out hB)
      have hz := hB.size
      clear hB
      refine wp_region_D (fun w' => Below wx.drew.heap.size wx.drew w') [9] (by kernel_rfl) ?_
      generalize wx.drew = wx at *
      have HS := Lib.hid (Below.refl wx.heap.size wx)
      have hl0 := (Array.getElem?_eq_some_iff.1 hdx).1
      have hlk := (Array.getElem?_eq_some_iff.1 hkx).1
      have hli := (Array.getElem?_eq_some_iff.1 hix).1
      have hlr := (Array.getElem?_eq_some_iff.1 hrx).1
      have hlb : kba < wx.heap.size := by omega
      clear p0 p1 q0 q1 q2 q3 q4
      have x0 := belowCell HX.out a0 hba; have x1 := belowCell HX.out a1 hba; have x2 := belowCell HX.out a2 hba; have x3 := belowCell HX.out a3 hba; have x4 := belowCell HX.out a4 hba
      refine wpAnyD_take (i := 0) (v := ?_) rfl (by kernel_rfl) (by kernel_rfl) (by kernel_rfl) (by kernel_rfl) (fun _ _ _ h => by first | exact h | cases h.1) (by rfl) (by kernel_rfl) (Or.inl ⟨by rfl, ?_⟩) (by first | exact HS.out | exact hS | exact hdx | exact ⟨hdx, hkx⟩) ?_
      rotate_left
      · (intro w' hw'; (try dsimp only at hw'); skip; go_simp; first | done | with_reducible rfl)
      (try simp only [List.getElem_toArray, List.getElem_cons_zero, List.getElem_cons_succ, Act.put, List.setIfInBounds_toArray, List.set_cons_zero, List.set_cons_succ])
      refine wpAnyD_take (i := 1) (v := ?_) rfl (by kernel_rfl) (by kernel_rfl) (by kernel_rfl) (by kernel_rfl) (fun _ _ _ h => by first | exact h | cases h.1) (by rfl) (by kernel_rfl) (Or.inl ⟨by rfl, ?_⟩) (by first | exact HS.out | exact hS | exact hdx | exact ⟨hdx, hkx⟩) ?_
      rotate_left
      · (intro w' hw'; (try dsimp only at hw'); (have z0 := (boxed (box_below hdx hw' hl0)) 0 _ rfl; have z1 := (boxed (box_below hdx hw' hl0)) 1 _ rfl; have z2 := (boxed (box_below hdx hw' hl0)) 2 _ rfl; have z3 := (boxed (box_below hdx hw' hl0)) 3 _ rfl; have z4 := (boxed (box_below hdx hw' hl0)) 4 _ rfl); go_simp; first | done | with_reducible rfl)
      (try simp only [List.getElem_toArray, List.getElem_cons_zero, List.getElem_cons_succ, Act.put, List.setIfInBounds_toArray, List.set_cons_zero, List.set_cons_succ])
      refine wpAnyD_take (i := 2) (v := ?_) rfl (by kernel_rfl) (by kernel_rfl) (by kernel_rfl) (by kernel_rfl) (fun _ _ _ h => by first | exact h | cases h.1) (by rfl) (by kernel_rfl) (Or.inl ⟨by rfl, ?_⟩) (by first | exact HS.out | exact hS | exact hdx | exact ⟨hdx, hkx⟩) ?_
      rotate_left
      · (intro w' hw'; (try dsimp only at hw'); skip; go_simp; first | done | with_reducible rfl)
      (try simp only [List.getElem_toArray, List.getElem_cons_zero, List.getElem_cons_succ, Act.put, List.setIfInBounds_toArray, List.set_cons_zero, List.set_cons_succ])
      refine wpAnyD_take (i := 3) (v := ?_) rfl (by kernel_rfl) (by kernel_rfl) (by kernel_rfl) (by kernel_rfl) (fun _ _ _ h => by first | exact h | cases h.1) (by rfl) (by kernel_rfl) (Or.inl ⟨by rfl, ?_⟩) (by first | exact HS.out | exact hS | exact hdx | exact ⟨hdx, hkx⟩) ?_
      rotate_left
      · (intro w' hw'; (try dsimp only at hw'); (have z0 := belowCell hw' x0 hlb; have z1 := belowCell hw' x1 hlb; have z2 := belowCell hw' x2 hlb; have z3 := belowCell hw' x3 hlb; have z4 := belowCell hw' x4 hlb); go_simp; first | done | with_reducible rfl)
      (try simp only [List.getElem_toArray, List.getElem_cons_zero, List.getElem_cons_succ, Act.put, List.setIfInBounds_toArray, List.set_cons_zero, List.set_cons_succ])
      refine wpAnyD_take (i := 4) (v := ?_) rfl (by kernel_rfl) (by kernel_rfl) (by kernel_rfl) (by kernel_rfl) (fun _ _ _ h => by first | exact h | cases h.1) (by rfl) (by kernel_rfl) (Or.inl ⟨by rfl, ?_⟩) (by first | exact HS.out | exact hS | exact hdx | exact ⟨hdx, hkx⟩) ?_
      rotate_left
      · (intro w' hw'; (try dsimp only at hw'); skip; go_simp; first | done | with_reducible rfl)
      (try simp only [List.getElem_toArray, List.getElem_cons_zero, List.getElem_cons_succ, Act.put, List.setIfInBounds_toArray, List.set_cons_zero, List.set_cons_succ])
      refine wpAnyD_take (i := 5) (v := ?_) rfl (by kernel_rfl) (by kernel_rfl) (by kernel_rfl) (by kernel_rfl) (fun _ _ _ h => by first | exact h | cases h.1) (by rfl) (by kernel_rfl) (Or.inl ⟨by rfl, ?_⟩) (by first | exact HS.out | exact hS | exact hdx | exact ⟨hdx, hkx⟩) ?_
      rotate_left
      · (intro w' hw'; (try dsimp only at hw'); (have z0 := (boxed (box_below hkx hw' hlk)) 0 _ rfl; have z1 := (boxed (box_below hkx hw' hlk)) 1 _ rfl); go_simp; first | done | with_reducible rfl)
      (try simp only [List.getElem_toArray, List.getElem_cons_zero, List.getElem_cons_succ, Act.put, List.setIfInBounds_toArray, List.set_cons_zero, List.set_cons_succ])
      refine wpAnyD_take (i := 6) (v := ?_) rfl (by kernel_rfl) (by kernel_rfl) (by kernel_rfl) (by kernel_rfl) (fun _ _ _ h => by first | exact h | cases h.1) (by rfl) (by kernel_rfl) (Or.inl ⟨by rfl, ?_⟩) (by first | exact HS.out | exact hS | exact hdx | exact ⟨hdx, hkx⟩) ?_
      rotate_left
      · (intro w' hw'; (try dsimp only at hw'); skip; go_simp; first | done | with_reducible rfl)
      (try simp only [List.getElem_toArray, List.getElem_cons_zero, List.getElem_cons_succ, Act.put, List.setIfInBounds_toArray, List.set_cons_zero, List.set_cons_succ])
      refine wpAnyD_take (i := 7) (v := ?_) rfl (by kernel_rfl) (by kernel_rfl) (by kernel_rfl) (by kernel_rfl) (fun _ _ _ h => by first | exact h | cases h.1) (by rfl) (by kernel_rfl) (Or.inl ⟨by rfl, ?_⟩) (by first | exact HS.out | exact hS | exact hdx | exact ⟨hdx, hkx⟩) ?_
      rotate_left
      · (intro w' hw'; (try dsimp only at hw'); (have z0 := (boxed (box_below hix hw' hli)) 0 _ rfl; have z1 := (boxed (box_below hix hw' hli)) 1 _ rfl; have z2 := (boxed (box_below hix hw' hli)) 2 _ rfl; have z3 := (boxed (box_below hix hw' hli)) 3 _ rfl; have z4 := (boxed (box_below hix hw' hli)) 4 _ rfl); go_simp; first | done | with_reducible rfl)
      (try simp only [List.getElem_toArray, List.getElem_cons_zero, List.getElem_cons_succ, Act.put, List.setIfInBounds_toArray, List.set_cons_zero, List.set_cons_succ])
      refine wpAnyD_take (i := 8) (v := ?_) rfl (by kernel_rfl) (by kernel_rfl) (by kernel_rfl) (by kernel_rfl) (fun _ _ _ h => by first | exact h | cases h.1) (by rfl) (by kernel_rfl) (Or.inl ⟨by rfl, ?_⟩) (by first | exact HS.out | exact hS | exact hdx | exact ⟨hdx, hkx⟩) ?_
      rotate_left
      · (intro w' hw'; (try dsimp only at hw'); skip; go_simp; first | done | with_reducible rfl)
      (try simp only [List.getElem_toArray, List.getElem_cons_zero, List.getElem_cons_succ, Act.put, List.setIfInBounds_toArray, List.set_cons_zero, List.set_cons_succ])
      refine wpAnyD_all (rs := [9]) (by kernel_rfl) (by simp) (AllD.cons rfl (by rfl) (fun K hK => ?_) AllD.nil)
      have hr0 := (boxed hrx) 0 _ rfl; have hr1 := (boxed hrx) 1 _ rfl; have hr2 := (boxed hrx) 2 _ rfl; have hr3 := (boxed hrx) 3 _ rfl; have hr4 := (boxed hrx) 4 _ rfl; have hr5 := (boxed hrx) 5 _ rfl; have hr6 := (boxed hrx) 6 _ rfl
      have hf0 := boxed_frozen hrx 0; have hf1 := boxed_frozen hrx 1; have hf2 := boxed_frozen hrx 2; have hf3 := boxed_frozen hrx 3; have hf4 := boxed_frozen hrx 4; have hf5 := boxed_frozen hrx 5; have hf6 := boxed_frozen hrx 6
      go_simp
      refine hK.out _ _ (fun h => absurd h (by decide)) ?_
      clear hK K
      (try simp only [List.getElem_toArray, List.getElem_cons_zero, List.getElem_cons_succ, Act.put, List.setIfInBounds_toArray, List.set_cons_zero, List.set_cons_succ])
      refine wpAnyD_takeY (i := 10) (v := ?_) rfl (by kernel_rfl) (by kernel_rfl) (by kernel_rfl) (fun _ _ _ h => by first | exact h | cases h.1) (by kernel_rfl) (Or.inl ⟨by rfl, ?_⟩) ?_
      rotate_left
      · (intro w' hw'; go_simp; first | done | with_reducible rfl)
      (try simp only [List.getElem_toArray, List.getElem_cons_zero, List.getElem_cons_succ, Act.put, List.setIfInBounds_toArray, List.set_cons_zero, List.set_cons_succ])
      refine wpAnyD_done (by kernel_rfl) ?_ _
      go_wp2
      rw [HG.out, HE1.out]
      exact sign_ret2 (s := (v.kid 1, kk.2, (v.kid 3).data)) (S' := S) (w2 := wx) (g := w.heap.size + 1) (by simp [results, Tryd.results12, go_sem, put7, signV, zeroS, zeroT, Tree.list, Tree.hinted, hr0, hr1, hr2, hr3, hr4, hr5, hr6]) rfl ⟨HKA.out.keepS HX.out hS, HK.out, slKeepS HKD.out.2.1 HX.out hS⟩ (fun b hb => by have := hS b hb; exact ⟨.inl hb, by omega, by omega⟩) HX.out (by omega) (by omega)
    · have hd3' : ¬ (dn2 : Int) = 64 := by omega
      have HG : Hid (rsget v = none ∧ ek = false) := by
        have : rsget v = none := by rw [HC.out, plainB, HD1.out, HD2.out, HKD.out.2.1.1, beq_eq_false_iff_ne.2 hd3]; rfl
        exact ⟨this, by rw [← HEK.out, this]; rfl⟩
      have hr0 := (boxed hrx) 0 _ rfl; have hr1 := (boxed hrx) 1 _ rfl; have hr2 := (boxed hrx) 2 _ rfl; have hr3 := (boxed hrx) 3 _ rfl; have hr4 := (boxed hrx) 4 _ rfl; have hr5 := (boxed hrx) 5 _ rfl; have hr6 := (boxed hrx) 6 _ rfl
      have hf0 := boxed_frozen hrx 0; have hf1 := boxed_frozen hrx 1; have hf2 := boxed_frozen hrx 2; have hf3 := boxed_frozen hrx 3; have hf4 := boxed_frozen hrx 4; have hf5 := boxed_frozen hrx 5; have hf6 := boxed_frozen hrx 6
      go_wp2
      rw [HG.out.1, HG.out.2]
      exact sign_ret2 (s := zeroS) (w2 := wx) (g := w.heap.size + 1) (by simp [results, Tryd.results12, go_sem, put7, signV, zeroS, zeroT, Tree.list, Tree.hinted, hr0, hr1, hr2, hr3, hr4, hr5, hr6]) rfl zeroS_parts (fun b (hb : False) => hb.elim) HX.out (by omega) (by omega)
  · have h4' : ¬ (n3 : Int) = 4 := by omega
    have HG : Hid (rsget v = none ∧ ek = false) := by
      have : rsget v = none := by rw [rsget, hhd, hmy, HN.out, beq_eq_false_iff_ne.2 h4]; rfl
      exact ⟨this, by rw [← HEK.out, this]; rfl⟩
    clear hp hmy hhd
    have q0 := (boxed hdx) 0 _ rfl; have q1 := (boxed hdx) 1 _ rfl; have q2 := (boxed hdx) 2 _ rfl; have q3 := (boxed hdx) 3 _ rfl; have q4 := (boxed hdx) 4 _ rfl
    have hr0 := (boxed hrx) 0 _ rfl; have hr1 := (boxed hrx) 1 _ rfl; have hr2 := (boxed hrx) 2 _ rfl; have hr3 := (boxed hrx) 3 _ rfl; have hr4 := (boxed hrx) 4 _ rfl; have hr5 := (boxed hrx) 5 _ rfl; have hr6 := (boxed hrx) 6 _ rfl
    have hf0 := boxed_frozen hrx 0; have hf1 := boxed_frozen hrx 1; have hf2 := boxed_frozen hrx 2; have hf3 := boxed_frozen hrx 3; have hf4 := boxed_frozen hrx 4; have hf5 := boxed_frozen hrx 5; have hf6 := boxed_frozen hrx 6
    go_wp2
    rw [HG.out.1, HG.out.2]
    exact sign_ret2 (s := zeroS) (w2 := wx) (g := w.heap.size + 1) (by simp [results, Tryd.results12, go_sem, put7, signV, zeroS, zeroT, Tree.list, Tree.hinted, hr0, hr1, hr2, hr3, hr4, hr5, hr6]) rfl zeroS_parts (fun b (hb : False) => hb.elim) HX.out (by omega) (by omega)
end Go.Proofs.YtdakeodebgggfaaDoor
