/- Layer 18: what is read of any value. -/
import Derived.Test.YtdakeodebgggfaaDoorUm
namespace Go.Proofs.YtdakeodebgggfaaDoor
open Go.RowKit
set_option linter.unusedVariables false
set_option linter.unusedSimpArgs false

set_option maxHeartbeats 2000000 in
set_option maxRecDepth 100000 in
theorem signedreads_c (v : Tree) (w : World) (cs : List Value) (h : Rep.tree.rd w (fun b => b < w.heap.size) cs v) (hw : v.wt ≤ 1048576) (hT : Tabs w.heap.size w) :
    Calls Tryd.prog 3 #[.agg cs.toArray] w (Tells w (.bool true)) := by
  obtain ⟨A1, n1, c1, A2, n2, c2, A3, n3, c3, rfl, hp⟩ := Rep.tree_open h
  have HP := Lib.hid hp
  have HTT := Lib.hid hT
  have HX := Lib.hid (Below.alloc (Below.refl _ w) (Nat.le_refl _) (.cells #[.bool v.list, .bool v.hinted, .slice A1 n1 c1, .slice A2 n2 c2, .slice A3 n3 c3] 25))
  have hdx := box_new w #[.bool v.list, .bool v.hinted, .slice A1 n1 c1, .slice A2 n2 c2, .slice A3 n3 c3] 25
  clear h hT hp
  go_enter Tryd.func3, Tryd.ntmps3
  go_upto_region 1 with fail
  generalize w.alloc (.cells #[.bool v.list, .bool v.hinted, .slice A1 n1 c1, .slice A2 n2 c2, .slice A3 n3 c3] 25) = wx at *
  have hz := HX.out.size
  have q0 := (boxed hdx) 0 _ rfl; have q1 := (boxed hdx) 1 _ rfl; have q2 := (boxed hdx) 2 _ rfl; have q3 := (boxed hdx) 3 _ rfl; have q4 := (boxed hdx) 4 _ rfl
  go_wp2_with fail
  refine Calls.mono (great_c v _ _ 0 (HP.out.later HX.out).rd (by omega) (by omega)) ?_
  rintro e wx ⟨r, rfl, hB⟩
  clear q0 q1 q2 q3 q4
  (try have HL2 := Lib.hid (slKeepS HL2.out hB (by intro b hb; first | omega | (simp only [false_or] at hb; omega))))
  (try have HS := Lib.hid (HS.out.trans (hB.mono (by omega))))
  (try have HK := Lib.hid (slKeepS HK.out hB (by intro b hb; first | omega | (have := hS b hb; omega))))
  (try have pa := pa.keepS hB (by intro b hb; first | omega | (simp only [false_or] at hb; omega)))
  (try have pb := pb.keepS hB (by intro b hb; first | omega | (simp only [false_or] at hb; omega)))
  (try have pc := pc.keepS hB (by intro b hb; first | omega | (simp only [false_or] at hb; omega)))
  (try have pd := pd.keepS hB (by intro b hb; first | omega | (simp only [false_or] at hb; omega)))
  (try have pe := pe.keepS hB (by intro b hb; first | omega | (simp only [false_or] at hb; omega)))
  (try have HE := Lib.hid (slKeepS HE.out hB (by intro b hb; first | omega | (simp only [false_or] at hb; omega))))
  (try have HL := Lib.hid (slKeepS HL.out hB (by intro b hb; first | omega | (simp only [false_or] at hb; omega))))
  (try have hdx := box_below hdx hB (Array.getElem?_eq_some_iff.1 hdx).1)
  (try have hrx := box_below hrx hB (Array.getElem?_eq_some_iff.1 hrx).1)
  (try have hkx := box_below hkx hB (Array.getElem?_eq_some_iff.1 hkx).1)
  (try have hix := box_below hix hB (Array.getElem?_eq_some_iff.1 hix).1)
  (try have hjx := box_below hjx hB (Array.getElem?_eq_some_iff.1 hjx).1)
  have HX := Lib.hid (below_then HX.out hB)
  have hz := hB.size
  clear hB
  cases r with
  | true =>
    go_wp2_with fail
    refine Calls.mono (awake18_c _ (HTT.out.next HX.out)) ?_
    rintro e wx ⟨rfl, hB⟩
    (try have HL2 := Lib.hid (slKeepS HL2.out hB (by intro b hb; first | omega | (simp only [false_or] at hb; omega))))
    (try have HS := Lib.hid (HS.out.trans (hB.mono (by omega))))
    (try have HK := Lib.hid (slKeepS HK.out hB (by intro b hb; first | omega | (have := hS b hb; omega))))
    (try have pa := pa.keepS hB (by intro b hb; first | omega | (simp only [false_or] at hb; omega)))
    (try have pb := pb.keepS hB (by intro b hb; first | omega | (simp only [false_or] at hb; omega)))
    (try have pc := pc.keepS hB (by intro b hb; first | omega | (simp only [false_or] at hb; omega)))
    (try have pd := pd.keepS hB (by intro b hb; first | omega | (simp only [false_or] at hb; omega)))
    (try have pe := pe.keepS hB (by intro b hb; first | omega | (simp only [false_or] at hb; omega)))
    (try have HE := Lib.hid (slKeepS HE.out hB (by intro b hb; first | omega | (simp only [false_or] at hb; omega))))
    (try have HL := Lib.hid (slKeepS HL.out hB (by intro b hb; first | omega | (simp only [false_or] at hb; omega))))
    (try have hdx := box_below hdx hB (Array.getElem?_eq_some_iff.1 hdx).1)
    (try have hrx := box_below hrx hB (Array.getElem?_eq_some_iff.1 hrx).1)
    (try have hkx := box_below hkx hB (Array.getElem?_eq_some_iff.1 hkx).1)
    (try have hix := box_below hix hB (Array.getElem?_eq_some_iff.1 hix).1)
    (try have hjx := box_below hjx hB (Array.getElem?_eq_some_iff.1 hjx).1)
    have HX := Lib.hid (below_then HX.out hB)
    have hz := hB.size
    clear hB
    go_wp2
    go_ret
    exact ⟨rfl, HX.out⟩
  | false =>
  have q0 := (boxed hdx) 0 _ rfl; have q1 := (boxed hdx) 1 _ rfl; have q2 := (boxed hdx) 2 _ rfl; have q3 := (boxed hdx) 3 _ rfl; have q4 := (boxed hdx) 4 _ rfl
  go_wp2_with fail
  refine Calls.mono (sget_c v _ _ (HP.out.later HX.out).rd (HTT.out.next HX.out) (by omega)) ?_
  rintro e wx ⟨aA1, an1, ac1, aA2, an2, ac2, aA3, an3, ac3, aAp, anp, acp, aAs, ans, acs, rfl, pa, hB⟩
  clear q0 q1 q2 q3 q4
  (try have HL2 := Lib.hid (slKeepS HL2.out hB (by intro b hb; first | omega | (simp only [false_or] at hb; omega))))
  (try have HS := Lib.hid (HS.out.trans (hB.mono (by omega))))
  (try have HK := Lib.hid (slKeepS HK.out hB (by intro b hb; first | omega | (have := hS b hb; omega))))
  (try have pa := pa.keepS hB (by intro b hb; first | omega | (simp only [false_or] at hb; omega)))
  (try have pb := pb.keepS hB (by intro b hb; first | omega | (simp only [false_or] at hb; omega)))
  (try have pc := pc.keepS hB (by intro b hb; first | omega | (simp only [false_or] at hb; omega)))
  (try have pd := pd.keepS hB (by intro b hb; first | omega | (simp only [false_or] at hb; omega)))
  (try have pe := pe.keepS hB (by intro b hb; first | omega | (simp only [false_or] at hb; omega)))
  (try have HE := Lib.hid (slKeepS HE.out hB (by intro b hb; first | omega | (simp only [false_or] at hb; omega))))
  (try have HL := Lib.hid (slKeepS HL.out hB (by intro b hb; first | omega | (simp only [false_or] at hb; omega))))
  (try have hdx := box_below hdx hB (Array.getElem?_eq_some_iff.1 hdx).1)
  (try have hrx := box_below hrx hB (Array.getElem?_eq_some_iff.1 hrx).1)
  (try have hkx := box_below hkx hB (Array.getElem?_eq_some_iff.1 hkx).1)
  (try have hix := box_below hix hB (Array.getElem?_eq_some_iff.1 hix).1)
  (try have hjx := box_below hjx hB (Array.getElem?_eq_some_iff.1 hjx).1)
  have HX := Lib.hid (below_then HX.out hB)
  have hz := hB.size
  clear hB
  generalize hg : (sget v).getD zeroS = sg at *
  generalize hek : (if (sget v).isSome then (0 : Int) else 3) = ek at *
  simp only [signV]
  go_upto_region 4 with fail
  have hB := Below.alloc (Below.refl wx.heap.size wx) (Nat.le_refl _) (.cells #[.bool sg.1.list, .bool sg.1.hinted, .slice aA1 an1 ac1, .slice aA2 an2 ac2, .slice aA3 an3 ac3, .slice aAp anp acp, .slice aAs ans acs] 29)
  have hbn := box_new wx #[.bool sg.1.list, .bool sg.1.hinted, .slice aA1 an1 ac1, .slice aA2 an2 ac2, .slice aA3 an3 ac3, .slice aAp anp acp, .slice aAs ans acs] 29
  (try have HL2 := Lib.hid (slKeepS HL2.out hB (by intro b hb; first | omega | (simp only [false_or] at hb; omega))))
  (try have HS := Lib.hid (HS.out.trans (hB.mono (by omega))))
  (try have HK := Lib.hid (slKeepS HK.out hB (by intro b hb; first | omega | (have := hS b hb; omega))))
  (try have pa := pa.keepS hB (by intro b hb; first | omega | (simp only [false_or] at hb; omega)))
  (try have pb := pb.keepS hB (by intro b hb; first | omega | (simp only [false_or] at hb; omega)))
  (try have pc := pc.keepS hB (by intro b hb; first | omega | (simp only [false_or] at hb; omega)))
  (try have pd := pd.keepS hB (by intro b hb; first | omega | (simp only [false_or] at hb; omega)))
  (try have pe := pe.keepS hB (by intro b hb; first | omega | (simp only [false_or] at hb; omega)))
  (try have HE := Lib.hid (slKeepS HE.out hB (by intro b hb; first | omega | (simp only [false_or] at hb; omega))))
  (try have HL := Lib.hid (slKeepS HL.out hB (by intro b hb; first | omega | (simp only [false_or] at hb; omega))))
  (try have hdx := box_below hdx hB (Array.getElem?_eq_some_iff.1 hdx).1)
  (try have hrx := box_below hrx hB (Array.getElem?_eq_some_iff.1 hrx).1)
  (try have hkx := box_below hkx hB (Array.getElem?_eq_some_iff.1 hkx).1)
  (try have hix := box_below hix hB (Array.getElem?_eq_some_iff.1 hix).1)
  (try have hjx := box_below hjx hB (Array.getElem?_eq_some_iff.1 hjx).1)
  have HX := Lib.hid (below_then HX.out hB)
  have hz := hB.size
  have hkx := hbn
  have hlgk3 := (Array.getElem?_eq_some_iff.1 hkx).1
  clear hB hbn
  generalize hggk3 : wx.heap.size = gk3 at *
  generalize wx.alloc (.cells #[.bool sg.1.list, .bool sg.1.hinted, .slice aA1 an1 ac1, .slice aA2 an2 ac2, .slice aA3 an3 ac3, .slice aAp anp acp, .slice aAs ans acs] 29) = wx at *
  have q0 := (boxed hdx) 0 _ rfl; have q1 := (boxed hdx) 1 _ rfl; have q2 := (boxed hdx) 2 _ rfl; have q3 := (boxed hdx) 3 _ rfl; have q4 := (boxed hdx) 4 _ rfl
  go_wp2_with fail
  refine Calls.mono (rsget_c v wx (fun b => b < w.heap.size) (fun b hb => by have := HX.out.size; omega) _ (HP.out.keepS HX.out (fun _ h => h)).rd (by omega)) ?_
  rintro e wx ⟨bA1, bn1, bc1, bA2, bn2, bc2, bA3, bn3, bc3, bAp, bnp, bcp, bAs, bns, bcs, rfl, pb, hB⟩
  clear q0 q1 q2 q3 q4
  (try have HL2 := Lib.hid (slKeepS HL2.out hB (by intro b hb; first | omega | (simp only [false_or] at hb; omega))))
  (try have HS := Lib.hid (HS.out.trans (hB.mono (by omega))))
  (try have HK := Lib.hid (slKeepS HK.out hB (by intro b hb; first | omega | (have := hS b hb; omega))))
  (try have pa := pa.keepS hB (by intro b hb; first | omega | (simp only [false_or] at hb; omega)))
  (try have pb := pb.keepS hB (by intro b hb; first | omega | (simp only [false_or] at hb; omega)))
  (try have pc := pc.keepS hB (by intro b hb; first | omega | (simp only [false_or] at hb; omega)))
  (try have pd := pd.keepS hB (by intro b hb; first | omega | (simp only [false_or] at hb; omega)))
  (try have pe := pe.keepS hB (by intro b hb; first | omega | (simp only [false_or] at hb; omega)))
  (try have HE := Lib.hid (slKeepS HE.out hB (by intro b hb; first | omega | (simp only [false_or] at hb; omega))))
  (try have HL := Lib.hid (slKeepS HL.out hB (by intro b hb; first | omega | (simp only [false_or] at hb; omega))))
  (try have hdx := box_below hdx hB (Array.getElem?_eq_some_iff.1 hdx).1)
  (try have hrx := box_below hrx hB (Array.getElem?_eq_some_iff.1 hrx).1)
  (try have hkx := box_below hkx hB (Array.getElem?_eq_some_iff.1 hkx).1)
  (try have hix := box_below hix hB (Array.getElem?_eq_some_iff.1 hix).1)
  (try have hjx := box_below hjx hB (Array.getElem?_eq_some_iff.1 hjx).1)
  have HX := Lib.hid (below_then HX.out hB)
  have hz := hB.size
  clear hB
  rw [rsget_eq] at pb ⊢
  rw [hg] at pb ⊢
  simp only [signV]
  go_upto_region 5 with fail
  have hB := Below.alloc (Below.refl wx.heap.size wx) (Nat.le_refl _) (.cells #[.bool sg.1.list, .bool sg.1.hinted, .slice bA1 bn1 bc1, .slice bA2 bn2 bc2, .slice bA3 bn3 bc3, .slice bAp bnp bcp, .slice bAs bns bcs] 29)
  have hbn := box_new wx #[.bool sg.1.list, .bool sg.1.hinted, .slice bA1 bn1 bc1, .slice bA2 bn2 bc2, .slice bA3 bn3 bc3, .slice bAp bnp bcp, .slice bAs bns bcs] 29
  (try have HL2 := Lib.hid (slKeepS HL2.out hB (by intro b hb; first | omega | (simp only [false_or] at hb; omega))))
  (try have HS := Lib.hid (HS.out.trans (hB.mono (by omega))))
  (try have HK := Lib.hid (slKeepS HK.out hB (by intro b hb; first | omega | (have := hS b hb; omega))))
  (try have pa := pa.keepS hB (by intro b hb; first | omega | (simp only [false_or] at hb; omega)))
  (try have pb := pb.keepS hB (by intro b hb; first | omega | (simp only [false_or] at hb; omega)))
  (try have pc := pc.keepS hB (by intro b hb; first | omega | (simp only [false_or] at hb; omega)))
  (try have pd := pd.keepS hB (by intro b hb; first | omega | (simp only [false_or] at hb; omega)))
  (try have pe := pe.keepS hB (by intro b hb; first | omega | (simp only [false_or] at hb; omega)))
  (try have HE := Lib.hid (slKeepS HE.out hB (by intro b hb; first | omega | (simp only [false_or] at hb; omega))))
  (try have HL := Lib.hid (slKeepS HL.out hB (by intro b hb; first | omega | (simp only [false_or] at hb; omega))))
  (try have hdx := box_below hdx hB (Array.getElem?_eq_some_iff.1 hdx).1)
  (try have hrx := box_below hrx hB (Array.getElem?_eq_some_iff.1 hrx).1)
  (try have hkx := box_below hkx hB (Array.getElem?_eq_some_iff.1 hkx).1)
  (try have hix := box_below hix hB (Array.getElem?_eq_some_iff.1 hix).1)
  (try have hjx := box_below hjx hB (Array.getElem?_eq_some_iff.1 hjx).1)
  have HX := Lib.hid (below_then HX.out hB)
  have hz := hB.size
  have hix := hbn
  have hlgk5 := (Array.getElem?_eq_some_iff.1 hix).1
  clear hB hbn
  generalize hggk5 : wx.heap.size = gk5 at *
  generalize wx.alloc (.cells #[.bool sg.1.list, .bool sg.1.hinted, .slice bA1 bn1 bc1, .slice bA2 bn2 bc2, .slice bA3 bn3 bc3, .slice bAp bnp bcp, .slice bAs bns bcs] 29) = wx at *
  have hlk := (Array.getElem?_eq_some_iff.1 hkx).1
  have HZ := Lib.hid hz
  cases hs : sget v with
  | none =>
    have e1 : sg = zeroS := by rw [← hg, hs]; rfl
    have e2 : ek = 3 := by rw [← hek, hs]; rfl
    clear hg hek hs
    subst e1 e2
    have q0 := (boxed hkx) 0 _ rfl; have q1 := (boxed hkx) 1 _ rfl; have q2 := (boxed hkx) 2 _ rfl; have q3 := (boxed hkx) 3 _ rfl; have q4 := (boxed hkx) 4 _ rfl; have q5 := (boxed hkx) 5 _ rfl; have q6 := (boxed hkx) 6 _ rfl
    go_wp2_with fail
    refine Calls.mono (same18_c zeroS zeroS wx _ _ _ _ _ _ _ _ _ _ _ _ _ _ _ _ _ _ _ _ _ _ _ _ _ _ _ _ _ _ (pa.more (by intro b hb; simp only [false_or] at hb; omega)) (zeroS_parts.more (fun b hb => hb.elim))) ?_
    rintro e wx ⟨rfl, hB⟩
    rw [sgnSame_refl]
    clear q0 q1 q2 q3 q4 q5 q6
    (try have HL2 := Lib.hid (slKeepS HL2.out hB (by intro b hb; first | omega | (simp only [false_or] at hb; omega))))
    (try have HS := Lib.hid (HS.out.trans (hB.mono (by omega))))
    (try have HK := Lib.hid (slKeepS HK.out hB (by intro b hb; first | omega | (have := hS b hb; omega))))
    (try have pa := pa.keepS hB (by intro b hb; first | omega | (simp only [false_or] at hb; omega)))
    (try have pb := pb.keepS hB (by intro b hb; first | omega | (simp only [false_or] at hb; omega)))
    (try have pc := pc.keepS hB (by intro b hb; first | omega | (simp only [false_or] at hb; omega)))
    (try have pd := pd.keepS hB (by intro b hb; first | omega | (simp only [false_or] at hb; omega)))
    (try have pe := pe.keepS hB (by intro b hb; first | omega | (simp only [false_or] at hb; omega)))
    (try have HE := Lib.hid (slKeepS HE.out hB (by intro b hb; first | omega | (simp only [false_or] at hb; omega))))
    (try have HL := Lib.hid (slKeepS HL.out hB (by intro b hb; first | omega | (simp only [false_or] at hb; omega))))
    (try have hdx := box_below hdx hB (Array.getElem?_eq_some_iff.1 hdx).1)
    (try have hrx := box_below hrx hB (Array.getElem?_eq_some_iff.1 hrx).1)
    (try have hkx := box_below hkx hB (Array.getElem?_eq_some_iff.1 hkx).1)
    (try have hix := box_below hix hB (Array.getElem?_eq_some_iff.1 hix).1)
    (try have hjx := box_below hjx hB (Array.getElem?_eq_some_iff.1 hjx).1)
    have HX := Lib.hid (below_then HX.out hB)
    have hz := hB.size
    clear hB
    go_wp2_with fail
    refine Calls.mono (awake18_c _ (HTT.out.next HX.out)) ?_
    rintro e wx ⟨rfl, hB⟩
    (try have HL2 := Lib.hid (slKeepS HL2.out hB (by intro b hb; first | omega | (simp only [false_or] at hb; omega))))
    (try have HS := Lib.hid (HS.out.trans (hB.mono (by omega))))
    (try have HK := Lib.hid (slKeepS HK.out hB (by intro b hb; first | omega | (have := hS b hb; omega))))
    (try have pa := pa.keepS hB (by intro b hb; first | omega | (simp only [false_or] at hb; omega)))
    (try have pb := pb.keepS hB (by intro b hb; first | omega | (simp only [false_or] at hb; omega)))
    (try have pc := pc.keepS hB (by intro b hb; first | omega | (simp only [false_or] at hb; omega)))
    (try have pd := pd.keepS hB (by intro b hb; first | omega | (simp only [false_or] at hb; omega)))
    (try have pe := pe.keepS hB (by intro b hb; first | omega | (simp only [false_or] at hb; omega)))
    (try have HE := Lib.hid (slKeepS HE.out hB (by intro b hb; first | omega | (simp only [false_or] at hb; omega))))
    (try have HL := Lib.hid (slKeepS HL.out hB (by intro b hb; first | omega | (simp only [false_or] at hb; omega))))
    (try have hdx := box_below hdx hB (Array.getElem?_eq_some_iff.1 hdx).1)
    (try have hrx := box_below hrx hB (Array.getElem?_eq_some_iff.1 hrx).1)
    (try have hkx := box_below hkx hB (Array.getElem?_eq_some_iff.1 hkx).1)
    (try have hix := box_below hix hB (Array.getElem?_eq_some_iff.1 hix).1)
    (try have hjx := box_below hjx hB (Array.getElem?_eq_some_iff.1 hjx).1)
    have HX := Lib.hid (below_then HX.out hB)
    have hz := hB.size
    clear hB
    go_wp2
    go_ret
    exact ⟨rfl, HX.out⟩
  | some x =>
    have e1 : sg = x := by rw [← hg, hs]; rfl
    have e2 : ek = 0 := by rw [← hek, hs]; rfl
    clear hg hek hs
    subst e1 e2
    have q0 := (boxed hkx) 0 _ rfl; have q1 := (boxed hkx) 1 _ rfl; have q2 := (boxed hkx) 2 _ rfl; have q3 := (boxed hkx) 3 _ rfl; have q4 := (boxed hkx) 4 _ rfl; have q5 := (boxed hkx) 5 _ rfl; have q6 := (boxed hkx) 6 _ rfl
    have p0 := (boxed hix) 0 _ rfl; have p1 := (boxed hix) 1 _ rfl; have p2 := (boxed hix) 2 _ rfl; have p3 := (boxed hix) 3 _ rfl; have p4 := (boxed hix) 4 _ rfl; have p5 := (boxed hix) 5 _ rfl; have p6 := (boxed hix) 6 _ rfl
    go_wp2_with fail
    refine Calls.mono (same18_c sg sg wx _ _ _ _ _ _ _ _ _ _ _ _ _ _ _ _ _ _ _ _ _ _ _ _ _ _ _ _ _ _ (pa.more (by intro b hb; simp only [false_or] at hb; omega)) (pb.more (by intro b hb; omega))) ?_
    rintro e wx ⟨rfl, hB⟩
    rw [sgnSame_refl]
    clear q0 q1 q2 q3 q4 q5 q6 p0 p1 p2 p3 p4 p5 p6
    (try have HL2 := Lib.hid (slKeepS HL2.out hB (by intro b hb; first | omega | (simp only [false_or] at hb; omega))))
    (try have HS := Lib.hid (HS.out.trans (hB.mono (by omega))))
    (try have HK := Lib.hid (slKeepS HK.out hB (by intro b hb; first | omega | (have := hS b hb; omega))))
    (try have pa := pa.keepS hB (by intro b hb; first | omega | (simp only [false_or] at hb; omega)))
    (try have pb := pb.keepS hB (by intro b hb; first | omega | (simp only [false_or] at hb; omega)))
    (try have pc := pc.keepS hB (by intro b hb; first | omega | (simp only [false_or] at hb; omega)))
    (try have pd := pd.keepS hB (by intro b hb; first | omega | (simp only [false_or] at hb; omega)))
    (try have pe := pe.keepS hB (by intro b hb; first | omega | (simp only [false_or] at hb; omega)))
    (try have HE := Lib.hid (slKeepS HE.out hB (by intro b hb; first | omega | (simp only [false_or] at hb; omega))))
    (try have HL := Lib.hid (slKeepS HL.out hB (by intro b hb; first | omega | (simp only [false_or] at hb; omega))))
    (try have hdx := box_below hdx hB (Array.getElem?_eq_some_iff.1 hdx).1)
    (try have hrx := box_below hrx hB (Array.getElem?_eq_some_iff.1 hrx).1)
    (try have hkx := box_below hkx hB (Array.getElem?_eq_some_iff.1 hkx).1)
    (try have hix := box_below hix hB (Array.getElem?_eq_some_iff.1 hix).1)
    (try have hjx := box_below hjx hB (Array.getElem?_eq_some_iff.1 hjx).1)
    have HX := Lib.hid (below_then HX.out hB)
    have hz := hB.size
    clear hB
    go_wp2_with fail
    refine Calls.mono (awake18_c _ (HTT.out.next HX.out)) ?_
    rintro e wx ⟨rfl, hB⟩
    (try have HL2 := Lib.hid (slKeepS HL2.out hB (by intro b hb; first | omega | (simp only [false_or] at hb; omega))))
    (try have HS := Lib.hid (HS.out.trans (hB.mono (by omega))))
    (try have HK := Lib.hid (slKeepS HK.out hB (by intro b hb; first | omega | (have := hS b hb; omega))))
    (try have pa := pa.keepS hB (by intro b hb; first | omega | (simp only [false_or] at hb; omega)))
    (try have pb := pb.keepS hB (by intro b hb; first | omega | (simp only [false_or] at hb; omega)))
    (try have pc := pc.keepS hB (by intro b hb; first | omega | (simp only [false_or] at hb; omega)))
    (try have pd := pd.keepS hB (by intro b hb; first | omega | (simp only [false_or] at hb; omega)))
    (try have pe := pe.keepS hB (by intro b hb; first | omega | (simp only [false_or] at hb; omega)))
    (try have HE := Lib.hid (slKeepS HE.out hB (by intro b hb; first | omega | (simp only [false_or] at hb; omega))))
    (try have HL := Lib.hid (slKeepS HL.out hB (by intro b hb; first | omega | (simp only [false_or] at hb; omega))))
    (try have hdx := box_below hdx hB (Array.getElem?_eq_some_iff.1 hdx).1)
    (try have hrx := box_below hrx hB (Array.getElem?_eq_some_iff.1 hrx).1)
    (try have hkx := box_below hkx hB (Array.getElem?_eq_some_iff.1 hkx).1)
    (try have hix := box_below hix hB (Array.getElem?_eq_some_iff.1 hix).1)
    (try have hjx := box_below hjx hB (Array.getElem?_eq_some_iff.1 hjx).1)
    have HX := Lib.hid (below_then HX.out hB)
    have hz := hB.size
    clear hB
    go_wp2
    go_ret
    exact ⟨rfl, HX.out⟩
end Go.Proofs.YtdakeodebgggfaaDoor
