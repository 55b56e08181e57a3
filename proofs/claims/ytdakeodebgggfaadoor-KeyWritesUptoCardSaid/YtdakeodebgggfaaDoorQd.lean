/- Layer 14: what is read of any value. -/
import Derived.Test.YtdakeodebgggfaaDoorQc
namespace Go.Proofs.YtdakeodebgggfaaDoor
open Go.RowKit
set_option linter.unusedVariables false
set_option linter.unusedSimpArgs false

theorem keyMay_len {s : Bool} {d : List UInt8} (h : keyMay s d = true) : d.length ≤ 64 := by
  simp only [keyMay] at h
  split at h <;> simp at h <;> omega
theorem keySame_refl (s : Bool) (d : List UInt8) : keySame s s d d = true := by simp [keySame]

set_option maxHeartbeats 2000000 in
set_option maxRecDepth 100000 in
theorem keyreads_c (v : Tree) (w : World) (cs : List Value) (h : Rep.tree.rd w (fun b => b < w.heap.size) cs v) (hw : v.wt ≤ 1048576) (hT : Tabs w.heap.size w) :
    Calls Tryd.prog 5 #[.agg cs.toArray] w (Tells w (.bool true)) := by
  obtain ⟨A1, n1, c1, A2, n2, c2, A3, n3, c3, rfl, hp⟩ := Rep.tree_open h
  have HP := Lib.hid hp
  have HTT := Lib.hid hT
  have HX := Lib.hid (Below.alloc (Below.refl _ w) (Nat.le_refl _) (.cells #[.bool v.list, .bool v.hinted, .slice A1 n1 c1, .slice A2 n2 c2, .slice A3 n3 c3] 25))
  have hdx := box_new w #[.bool v.list, .bool v.hinted, .slice A1 n1 c1, .slice A2 n2 c2, .slice A3 n3 c3] 25
  clear h hT hp
  go_enter Tryd.func5, Tryd.ntmps5
  go_upto_region 1 with fail
  generalize w.alloc (.cells #[.bool v.list, .bool v.hinted, .slice A1 n1 c1, .slice A2 n2 c2, .slice A3 n3 c3] 25) = wx at *
  have hz := HX.out.size
  have q0 := (boxed hdx) 0 _ rfl; have q1 := (boxed hdx) 1 _ rfl; have q2 := (boxed hdx) 2 _ rfl; have q3 := (boxed hdx) 3 _ rfl; have q4 := (boxed hdx) 4 _ rfl
  go_wp2_with fail
  refine Calls.mono (great_c v _ _ 0 (HP.out.later HX.out).rd (by omega) (by omega)) ?_
  rintro e wx ⟨r, rfl, hB⟩
  clear q0 q1 q2 q3 q4
  (try have HL2 := Lib.hid (slKeepS HL2.out hB (by intro b hb; first | omega | (simp only [false_or] at hb; omega))))
  (try have HS := Lib.hid (HS.out.trans (hB.mono (by omega))))
  (try have HK := Lib.hid (slKeepS HK.out hB (by intro b hb; first | omega | (have := hS b hb; omega))))
  (try have pa := pa.keepS hB (by intro b hb; first | omega | (simp only [false_or] at hb; omega)))
  (try have pb := pb.keepS hB (by intro b hb; first | omega | (simp only [false_or] at hb; omega)))
  (try have pc := pc.keepS hB (by intro b hb; first | omega | (simp only [false_or] at hb; omega)))
  (try have pd := pd.keepS hB (by intro b hb; first | omega | (simp only [false_or] at hb; omega)))
  (try have pe := pe.keepS hB (by intro b hb; first | omega | (simp only [false_or] at hb; omega)))
  (try have HE := Lib.hid (slKeepS HE.out hB (by intro b hb; first | omega | (simp only [false_or] at hb; omega))))
  (try have HL := Lib.hid (slKeepS HL.out hB (by intro b hb; first | omega | (simp only [false_or] at hb; omega))))
  (try have hdx := box_below hdx hB (Array.getElem?_eq_some_iff.1 hdx).1)
  (try have hrx := box_below hrx hB (Array.getElem?_eq_some_iff.1 hrx).1)
  (try have hkx := box_below hkx hB (Array.getElem?_eq_some_iff.1 hkx).1)
  (try have hix := box_below hix hB (Array.getElem?_eq_some_iff.1 hix).1)
  (try have hjx := box_below hjx hB (Array.getElem?_eq_some_iff.1 hjx).1)
  have HX := Lib.hid (below_then HX.out hB)
  have hz := hB.size
  clear hB
  cases r with
  | true =>
    go_wp2_with fail
    refine Calls.mono (awake14_c _ (HTT.out.next HX.out)) ?_
    rintro e wx ⟨rfl, hB⟩
    (try have HL2 := Lib.hid (slKeepS HL2.out hB (by intro b hb; first | omega | (simp only [false_or] at hb; omega))))
    (try have HS := Lib.hid (HS.out.trans (hB.mono (by omega))))
    (try have HK := Lib.hid (slKeepS HK.out hB (by intro b hb; first | omega | (have := hS b hb; omega))))
    (try have pa := pa.keepS hB (by intro b hb; first | omega | (simp only [false_or] at hb; omega)))
    (try have pb := pb.keepS hB (by intro b hb; first | omega | (simp only [false_or] at hb; omega)))
    (try have pc := pc.keepS hB (by intro b hb; first | omega | (simp only [false_or] at hb; omega)))
    (try have pd := pd.keepS hB (by intro b hb; first | omega | (simp only [false_or] at hb; omega)))
    (try have pe := pe.keepS hB (by intro b hb; first | omega | (simp only [false_or] at hb; omega)))
    (try have HE := Lib.hid (slKeepS HE.out hB (by intro b hb; first | omega | (simp only [false_or] at hb; omega))))
    (try have HL := Lib.hid (slKeepS HL.out hB (by intro b hb; first | omega | (simp only [false_or] at hb; omega))))
    (try have hdx := box_below hdx hB (Array.getElem?_eq_some_iff.1 hdx).1)
    (try have hrx := box_below hrx hB (Array.getElem?_eq_some_iff.1 hrx).1)
    (try have hkx := box_below hkx hB (Array.getElem?_eq_some_iff.1 hkx).1)
    (try have hix := box_below hix hB (Array.getElem?_eq_some_iff.1 hix).1)
    (try have hjx := box_below hjx hB (Array.getElem?_eq_some_iff.1 hjx).1)
    have HX := Lib.hid (below_then HX.out hB)
    have hz := hB.size
    clear hB
    go_wp2
    go_ret
    exact ⟨rfl, HX.out⟩
  | false =>
  have q0 := (boxed hdx) 0 _ rfl; have q1 := (boxed hdx) 1 _ rfl; have q2 := (boxed hdx) 2 _ rfl; have q3 := (boxed hdx) 3 _ rfl; have q4 := (boxed hdx) 4 _ rfl
  go_wp2_with fail
  refine Calls.mono (may_c v _ _ (HP.out.later HX.out).rd (by omega)) ?_
  rintro e wx ⟨rfl, hB⟩
  clear q0 q1 q2 q3 q4
  (try have HL2 := Lib.hid (slKeepS HL2.out hB (by intro b hb; first | omega | (simp only [false_or] at hb; omega))))
  (try have HS := Lib.hid (HS.out.trans (hB.mono (by omega))))
  (try have HK := Lib.hid (slKeepS HK.out hB (by intro b hb; first | omega | (have := hS b hb; omega))))
  (try have pa := pa.keepS hB (by intro b hb; first | omega | (simp only [false_or] at hb; omega)))
  (try have pb := pb.keepS hB (by intro b hb; first | omega | (simp only [false_or] at hb; omega)))
  (try have pc := pc.keepS hB (by intro b hb; first | omega | (simp only [false_or] at hb; omega)))
  (try have pd := pd.keepS hB (by intro b hb; first | omega | (simp only [false_or] at hb; omega)))
  (try have pe := pe.keepS hB (by intro b hb; first | omega | (simp only [false_or] at hb; omega)))
  (try have HE := Lib.hid (slKeepS HE.out hB (by intro b hb; first | omega | (simp only [false_or] at hb; omega))))
  (try have HL := Lib.hid (slKeepS HL.out hB (by intro b hb; first | omega | (simp only [false_or] at hb; omega))))
  (try have hdx := box_below hdx hB (Array.getElem?_eq_some_iff.1 hdx).1)
  (try have hrx := box_below hrx hB (Array.getElem?_eq_some_iff.1 hrx).1)
  (try have hkx := box_below hkx hB (Array.getElem?_eq_some_iff.1 hkx).1)
  (try have hix := box_below hix hB (Array.getElem?_eq_some_iff.1 hix).1)
  (try have hjx := box_below hjx hB (Array.getElem?_eq_some_iff.1 hjx).1)
  have HX := Lib.hid (below_then HX.out hB)
  have hz := hB.size
  clear hB
  cases hm : v.may with
  | false =>
    go_wp2_with fail
    refine Calls.mono (awake14_c _ (HTT.out.next HX.out)) ?_
    rintro e wx ⟨rfl, hB⟩
    (try have HL2 := Lib.hid (slKeepS HL2.out hB (by intro b hb; first | omega | (simp only [false_or] at hb; omega))))
    (try have HS := Lib.hid (HS.out.trans (hB.mono (by omega))))
    (try have HK := Lib.hid (slKeepS HK.out hB (by intro b hb; first | omega | (have := hS b hb; omega))))
    (try have pa := pa.keepS hB (by intro b hb; first | omega | (simp only [false_or] at hb; omega)))
    (try have pb := pb.keepS hB (by intro b hb; first | omega | (simp only [false_or] at hb; omega)))
    (try have pc := pc.keepS hB (by intro b hb; first | omega | (simp only [false_or] at hb; omega)))
    (try have pd := pd.keepS hB (by intro b hb; first | omega | (simp only [false_or] at hb; omega)))
    (try have pe := pe.keepS hB (by intro b hb; first | omega | (simp only [false_or] at hb; omega)))
    (try have HE := Lib.hid (slKeepS HE.out hB (by intro b hb; first | omega | (simp only [false_or] at hb; omega))))
    (try have HL := Lib.hid (slKeepS HL.out hB (by intro b hb; first | omega | (simp only [false_or] at hb; omega))))
    (try have hdx := box_below hdx hB (Array.getElem?_eq_some_iff.1 hdx).1)
    (try have hrx := box_below hrx hB (Array.getElem?_eq_some_iff.1 hrx).1)
    (try have hkx := box_below hkx hB (Array.getElem?_eq_some_iff.1 hkx).1)
    (try have hix := box_below hix hB (Array.getElem?_eq_some_iff.1 hix).1)
    (try have hjx := box_below hjx hB (Array.getElem?_eq_some_iff.1 hjx).1)
    have HX := Lib.hid (below_then HX.out hB)
    have hz := hB.size
    clear hB
    go_wp2
    go_ret
    exact ⟨rfl, HX.out⟩
  | true =>
  have HG : Hid (rgetK v = getK v) := rgetK_eq (by simp only [Tree.may, Bool.and_eq_true] at hm; exact hm.1.1.1)
  clear hm
  have q0 := (boxed hdx) 0 _ rfl; have q1 := (boxed hdx) 1 _ rfl; have q2 := (boxed hdx) 2 _ rfl; have q3 := (boxed hdx) 3 _ rfl; have q4 := (boxed hdx) 4 _ rfl
  go_wp2_with fail
  refine Calls.mono (kget_c v _ _ (HP.out.later HX.out).rd (by omega)) ?_
  rintro e wx ⟨kA, kn, kc, rfl, hs, hB⟩
  clear q0 q1 q2 q3 q4
  (try have HL2 := Lib.hid (slKeepS HL2.out hB (by intro b hb; first | omega | (simp only [false_or] at hb; omega))))
  (try have HS := Lib.hid (HS.out.trans (hB.mono (by omega))))
  (try have HK := Lib.hid (slKeepS HK.out hB (by intro b hb; first | omega | (have := hS b hb; omega))))
  (try have pa := pa.keepS hB (by intro b hb; first | omega | (simp only [false_or] at hb; omega)))
  (try have pb := pb.keepS hB (by intro b hb; first | omega | (simp only [false_or] at hb; omega)))
  (try have pc := pc.keepS hB (by intro b hb; first | omega | (simp only [false_or] at hb; omega)))
  (try have pd := pd.keepS hB (by intro b hb; first | omega | (simp only [false_or] at hb; omega)))
  (try have pe := pe.keepS hB (by intro b hb; first | omega | (simp only [false_or] at hb; omega)))
  (try have HE := Lib.hid (slKeepS HE.out hB (by intro b hb; first | omega | (simp only [false_or] at hb; omega))))
  (try have HL := Lib.hid (slKeepS HL.out hB (by intro b hb; first | omega | (simp only [false_or] at hb; omega))))
  (try have hdx := box_below hdx hB (Array.getElem?_eq_some_iff.1 hdx).1)
  (try have hrx := box_below hrx hB (Array.getElem?_eq_some_iff.1 hrx).1)
  (try have hkx := box_below hkx hB (Array.getElem?_eq_some_iff.1 hkx).1)
  (try have hix := box_below hix hB (Array.getElem?_eq_some_iff.1 hix).1)
  (try have hjx := box_below hjx hB (Array.getElem?_eq_some_iff.1 hjx).1)
  have HX := Lib.hid (below_then HX.out hB)
  have hz := hB.size
  clear hB
  have HE := Lib.hid hs
  clear hs
  generalize hg : keyOr (getK v) = sk at *
  generalize hek : (if (getK v).isSome then (0 : Int) else 7) = ek at *
  go_upto_region 4 with fail
  have hB := Below.alloc (Below.refl wx.heap.size wx) (Nat.le_refl _) (.cells #[.bool sk.1, .slice kA kn kc] 38)
  have hbn := box_new wx #[.bool sk.1, .slice kA kn kc] 38
  (try have HL2 := Lib.hid (slKeepS HL2.out hB (by intro b hb; first | omega | (simp only [false_or] at hb; omega))))
  (try have HS := Lib.hid (HS.out.trans (hB.mono (by omega))))
  (try have HK := Lib.hid (slKeepS HK.out hB (by intro b hb; first | omega | (have := hS b hb; omega))))
  (try have pa := pa.keepS hB (by intro b hb; first | omega | (simp only [false_or] at hb; omega)))
  (try have pb := pb.keepS hB (by intro b hb; first | omega | (simp only [false_or] at hb; omega)))
  (try have pc := pc.keepS hB (by intro b hb; first | omega | (simp only [false_or] at hb; omega)))
  (try have pd := pd.keepS hB (by intro b hb; first | omega | (simp only [false_or] at hb; omega)))
  (try have pe := pe.keepS hB (by intro b hb; first | omega | (simp only [false_or] at hb; omega)))
  (try have HE := Lib.hid (slKeepS HE.out hB (by intro b hb; first | omega | (simp only [false_or] at hb; omega))))
  (try have HL := Lib.hid (slKeepS HL.out hB (by intro b hb; first | omega | (simp only [false_or] at hb; omega))))
  (try have hdx := box_below hdx hB (Array.getElem?_eq_some_iff.1 hdx).1)
  (try have hrx := box_below hrx hB (Array.getElem?_eq_some_iff.1 hrx).1)
  (try have hkx := box_below hkx hB (Array.getElem?_eq_some_iff.1 hkx).1)
  (try have hix := box_below hix hB (Array.getElem?_eq_some_iff.1 hix).1)
  (try have hjx := box_below hjx hB (Array.getElem?_eq_some_iff.1 hjx).1)
  have HX := Lib.hid (below_then HX.out hB)
  have hz := hB.size
  have hkx := hbn
  have hlgk3 := (Array.getElem?_eq_some_iff.1 hkx).1
  clear hB hbn
  generalize hggk3 : wx.heap.size = gk3 at *
  generalize wx.alloc (.cells #[.bool sk.1, .slice kA kn kc] 38) = wx at *
  have q0 := (boxed hdx) 0 _ rfl; have q1 := (boxed hdx) 1 _ rfl; have q2 := (boxed hdx) 2 _ rfl; have q3 := (boxed hdx) 3 _ rfl; have q4 := (boxed hdx) 4 _ rfl
  go_wp2_with fail
  refine Calls.mono (rkget_c v _ _ (HP.out.later HX.out).rd) ?_
  rintro e wx ⟨rA, rn, rc, rfl, hs, hB⟩
  clear q0 q1 q2 q3 q4
  (try have HL2 := Lib.hid (slKeepS HL2.out hB (by intro b hb; first | omega | (simp only [false_or] at hb; omega))))
  (try have HS := Lib.hid (HS.out.trans (hB.mono (by omega))))
  (try have HK := Lib.hid (slKeepS HK.out hB (by intro b hb; first | omega | (have := hS b hb; omega))))
  (try have pa := pa.keepS hB (by intro b hb; first | omega | (simp only [false_or] at hb; omega)))
  (try have pb := pb.keepS hB (by intro b hb; first | omega | (simp only [false_or] at hb; omega)))
  (try have pc := pc.keepS hB (by intro b hb; first | omega | (simp only [false_or] at hb; omega)))
  (try have pd := pd.keepS hB (by intro b hb; first | omega | (simp only [false_or] at hb; omega)))
  (try have pe := pe.keepS hB (by intro b hb; first | omega | (simp only [false_or] at hb; omega)))
  (try have HE := Lib.hid (slKeepS HE.out hB (by intro b hb; first | omega | (simp only [false_or] at hb; omega))))
  (try have HL := Lib.hid (slKeepS HL.out hB (by intro b hb; first | omega | (simp only [false_or] at hb; omega))))
  (try have hdx := box_below hdx hB (Array.getElem?_eq_some_iff.1 hdx).1)
  (try have hrx := box_below hrx hB (Array.getElem?_eq_some_iff.1 hrx).1)
  (try have hkx := box_below hkx hB (Array.getElem?_eq_some_iff.1 hkx).1)
  (try have hix := box_below hix hB (Array.getElem?_eq_some_iff.1 hix).1)
  (try have hjx := box_below hjx hB (Array.getElem?_eq_some_iff.1 hjx).1)
  have HX := Lib.hid (below_then HX.out hB)
  have hz := hB.size
  clear hB
  have HL := Lib.hid hs
  clear hs
  rw [HG.out] at HL ⊢
  rw [hg] at HL ⊢
  go_upto_region 5 with fail
  have hB := Below.alloc (Below.refl wx.heap.size wx) (Nat.le_refl _) (.cells #[.bool sk.1, .slice rA rn rc] 38)
  have hbn := box_new wx #[.bool sk.1, .slice rA rn rc] 38
  (try have HL2 := Lib.hid (slKeepS HL2.out hB (by intro b hb; first | omega | (simp only [false_or] at hb; omega))))
  (try have HS := Lib.hid (HS.out.trans (hB.mono (by omega))))
  (try have HK := Lib.hid (slKeepS HK.out hB (by intro b hb; first | omega | (have := hS b hb; omega))))
  (try have pa := pa.keepS hB (by intro b hb; first | omega | (simp only [false_or] at hb; omega)))
  (try have pb := pb.keepS hB (by intro b hb; first | omega | (simp only [false_or] at hb; omega)))
  (try have pc := pc.keepS hB (by intro b hb; first | omega | (simp only [false_or] at hb; omega)))
  (try have pd := pd.keepS hB (by intro b hb; first | omega | (simp only [false_or] at hb; omega)))
  (try have pe := pe.keepS hB (by intro b hb; first | omega | (simp only [false_or] at hb; omega)))
  (try have HE := Lib.hid (slKeepS HE.out hB (by intro b hb; first | omega | (simp only [false_or] at hb; omega))))
  (try have HL := Lib.hid (slKeepS HL.out hB (by intro b hb; first | omega | (simp only [false_or] at hb; omega))))
  (try have hdx := box_below hdx hB (Array.getElem?_eq_some_iff.1 hdx).1)
  (try have hrx := box_below hrx hB (Array.getElem?_eq_some_iff.1 hrx).1)
  (try have hkx := box_below hkx hB (Array.getElem?_eq_some_iff.1 hkx).1)
  (try have hix := box_below hix hB (Array.getElem?_eq_some_iff.1 hix).1)
  (try have hjx := box_below hjx hB (Array.getElem?_eq_some_iff.1 hjx).1)
  have HX := Lib.hid (below_then HX.out hB)
  have hz := hB.size
  have hix := hbn
  have hlgk5 := (Array.getElem?_eq_some_iff.1 hix).1
  clear hB hbn
  generalize hggk5 : wx.heap.size = gk5 at *
  generalize wx.alloc (.cells #[.bool sk.1, .slice rA rn rc] 38) = wx at *
  cases hs : getK v with
  | none =>
    have e1 : sk = (false, []) := by rw [← hg, hs]; rfl
    have e2 : ek = 7 := by rw [← hek, hs]; rfl
    clear hg hek hs
    subst e1 e2
    have q0 := (boxed hkx) 0 _ rfl; have q1 := (boxed hkx) 1 _ rfl
    go_wp2_with fail
    refine Calls.mono (refksame_c false false [] [] _ _ _ _ _ _ _ _ (fun _ => False) (fun b hb => by omega) (fun b hb => hb.elim) HE.out Rep.sl_nil) ?_
    rintro e wx ⟨rfl, hB⟩
    rw [keySame_refl]
    clear q0 q1
    (try have HL2 := Lib.hid (slKeepS HL2.out hB (by intro b hb; first | omega | (simp only [false_or] at hb; omega))))
    (try have HS := Lib.hid (HS.out.trans (hB.mono (by omega))))
    (try have HK := Lib.hid (slKeepS HK.out hB (by intro b hb; first | omega | (have := hS b hb; omega))))
    (try have pa := pa.keepS hB (by intro b hb; first | omega | (simp only [false_or] at hb; omega)))
    (try have pb := pb.keepS hB (by intro b hb; first | omega | (simp only [false_or] at hb; omega)))
    (try have pc := pc.keepS hB (by intro b hb; first | omega | (simp only [false_or] at hb; omega)))
    (try have pd := pd.keepS hB (by intro b hb; first | omega | (simp only [false_or] at hb; omega)))
    (try have pe := pe.keepS hB (by intro b hb; first | omega | (simp only [false_or] at hb; omega)))
    (try have HE := Lib.hid (slKeepS HE.out hB (by intro b hb; first | omega | (simp only [false_or] at hb; omega))))
    (try have HL := Lib.hid (slKeepS HL.out hB (by intro b hb; first | omega | (simp only [false_or] at hb; omega))))
    (try have hdx := box_below hdx hB (Array.getElem?_eq_some_iff.1 hdx).1)
    (try have hrx := box_below hrx hB (Array.getElem?_eq_some_iff.1 hrx).1)
    (try have hkx := box_below hkx hB (Array.getElem?_eq_some_iff.1 hkx).1)
    (try have hix := box_below hix hB (Array.getElem?_eq_some_iff.1 hix).1)
    (try have hjx := box_below hjx hB (Array.getElem?_eq_some_iff.1 hjx).1)
    have HX := Lib.hid (below_then HX.out hB)
    have hz := hB.size
    clear hB
    go_wp2_with fail
    refine Calls.mono (awake14_c _ (HTT.out.next HX.out)) ?_
    rintro e wx ⟨rfl, hB⟩
    (try have HL2 := Lib.hid (slKeepS HL2.out hB (by intro b hb; first | omega | (simp only [false_or] at hb; omega))))
    (try have HS := Lib.hid (HS.out.trans (hB.mono (by omega))))
    (try have HK := Lib.hid (slKeepS HK.out hB (by intro b hb; first | omega | (have := hS b hb; omega))))
    (try have pa := pa.keepS hB (by intro b hb; first | omega | (simp only [false_or] at hb; omega)))
    (try have pb := pb.keepS hB (by intro b hb; first | omega | (simp only [false_or] at hb; omega)))
    (try have pc := pc.keepS hB (by intro b hb; first | omega | (simp only [false_or] at hb; omega)))
    (try have pd := pd.keepS hB (by intro b hb; first | omega | (simp only [false_or] at hb; omega)))
    (try have pe := pe.keepS hB (by intro b hb; first | omega | (simp only [false_or] at hb; omega)))
    (try have HE := Lib.hid (slKeepS HE.out hB (by intro b hb; first | omega | (simp only [false_or] at hb; omega))))
    (try have HL := Lib.hid (slKeepS HL.out hB (by intro b hb; first | omega | (simp only [false_or] at hb; omega))))
    (try have hdx := box_below hdx hB (Array.getElem?_eq_some_iff.1 hdx).1)
    (try have hrx := box_below hrx hB (Array.getElem?_eq_some_iff.1 hrx).1)
    (try have hkx := box_below hkx hB (Array.getElem?_eq_some_iff.1 hkx).1)
    (try have hix := box_below hix hB (Array.getElem?_eq_some_iff.1 hix).1)
    (try have hjx := box_below hjx hB (Array.getElem?_eq_some_iff.1 hjx).1)
    have HX := Lib.hid (below_then HX.out hB)
    have hz := hB.size
    clear hB
    go_wp2
    go_ret
    exact ⟨rfl, HX.out⟩
  | some x =>
    have e1 : sk = x := by rw [← hg, hs]; rfl
    have e2 : ek = 0 := by rw [← hek, hs]; rfl
    obtain ⟨xs, xd⟩ := x
    obtain ⟨hkm, hve⟩ := getK_iff.1 hs
    clear hg hek hs
    subst e1 e2
    have HO : Hid (keyOut xs xd = v ∧ keyErr xs xd = 0) := ⟨by rw [keyOut, hkm, hve]; rfl, by rw [keyErr, hkm]; rfl⟩
    have hkl := keyMay_len hkm
    have hkn := HE.out.1
    dsimp only at hkn
    clear hkm hve
    have q0 := (boxed hkx) 0 _ rfl; have q1 := (boxed hkx) 1 _ rfl
    go_wp2_with fail
    refine Calls.mono (kput_c xs xd _ _ _ _ wx.heap.size (Nat.le_refl _) (Rep.sl_more HE.out (by intro b hb; omega)) (by omega)) ?_
    rintro e wx ⟨aA1, an1, ac1, aA2, an2, ac2, aA3, an3, ac3, rfl, pa, hB⟩
    clear q0 q1
    (try have HL2 := Lib.hid (slKeepS HL2.out hB (by intro b hb; first | omega | (simp only [false_or] at hb; omega))))
    (try have HS := Lib.hid (HS.out.trans (hB.mono (by omega))))
    (try have HK := Lib.hid (slKeepS HK.out hB (by intro b hb; first | omega | (have := hS b hb; omega))))
    (try have pa := pa.keepS hB (by intro b hb; first | omega | (simp only [false_or] at hb; omega)))
    (try have pb := pb.keepS hB (by intro b hb; first | omega | (simp only [false_or] at hb; omega)))
    (try have pc := pc.keepS hB (by intro b hb; first | omega | (simp only [false_or] at hb; omega)))
    (try have pd := pd.keepS hB (by intro b hb; first | omega | (simp only [false_or] at hb; omega)))
    (try have pe := pe.keepS hB (by intro b hb; first | omega | (simp only [false_or] at hb; omega)))
    (try have HE := Lib.hid (slKeepS HE.out hB (by intro b hb; first | omega | (simp only [false_or] at hb; omega))))
    (try have HL := Lib.hid (slKeepS HL.out hB (by intro b hb; first | omega | (simp only [false_or] at hb; omega))))
    (try have hdx := box_below hdx hB (Array.getElem?_eq_some_iff.1 hdx).1)
    (try have hrx := box_below hrx hB (Array.getElem?_eq_some_iff.1 hrx).1)
    (try have hkx := box_below hkx hB (Array.getElem?_eq_some_iff.1 hkx).1)
    (try have hix := box_below hix hB (Array.getElem?_eq_some_iff.1 hix).1)
    (try have hjx := box_below hjx hB (Array.getElem?_eq_some_iff.1 hjx).1)
    have HX := Lib.hid (below_then HX.out hB)
    have hz := hB.size
    clear hB
    rw [HO.out.1] at pa
    rw [HO.out.1, HO.out.2]
    simp only [treeV]
    go_upto_region 8 with fail
    have hB := Below.alloc (Below.refl wx.heap.size wx) (Nat.le_refl _) (.cells #[.bool v.list, .bool v.hinted, .slice aA1 an1 ac1, .slice aA2 an2 ac2, .slice aA3 an3 ac3] 25)
    have hbn := box_new wx #[.bool v.list, .bool v.hinted, .slice aA1 an1 ac1, .slice aA2 an2 ac2, .slice aA3 an3 ac3] 25
    (try have HL2 := Lib.hid (slKeepS HL2.out hB (by intro b hb; first | omega | (simp only [false_or] at hb; omega))))
    (try have HS := Lib.hid (HS.out.trans (hB.mono (by omega))))
    (try have HK := Lib.hid (slKeepS HK.out hB (by intro b hb; first | omega | (have := hS b hb; omega))))
    (try have pa := pa.keepS hB (by intro b hb; first | omega | (simp only [false_or] at hb; omega)))
    (try have pb := pb.keepS hB (by intro b hb; first | omega | (simp only [false_or] at hb; omega)))
    (try have pc := pc.keepS hB (by intro b hb; first | omega | (simp only [false_or] at hb; omega)))
    (try have pd := pd.keepS hB (by intro b hb; first | omega | (simp only [false_or] at hb; omega)))
    (try have pe := pe.keepS hB (by intro b hb; first | omega | (simp only [false_or] at hb; omega)))
    (try have HE := Lib.hid (slKeepS HE.out hB (by intro b hb; first | omega | (simp only [false_or] at hb; omega))))
    (try have HL := Lib.hid (slKeepS HL.out hB (by intro b hb; first | omega | (simp only [false_or] at hb; omega))))
    (try have hdx := box_below hdx hB (Array.getElem?_eq_some_iff.1 hdx).1)
    (try have hrx := box_below hrx hB (Array.getElem?_eq_some_iff.1 hrx).1)
    (try have hkx := box_below hkx hB (Array.getElem?_eq_some_iff.1 hkx).1)
    (try have hix := box_below hix hB (Array.getElem?_eq_some_iff.1 hix).1)
    (try have hjx := box_below hjx hB (Array.getElem?_eq_some_iff.1 hjx).1)
    have HX := Lib.hid (below_then HX.out hB)
    have hz := hB.size
    have hjx := hbn
    have hlgk7 := (Array.getElem?_eq_some_iff.1 hjx).1
    clear hB hbn
    generalize hggk7 : wx.heap.size = gk7 at *
    generalize wx.alloc (.cells #[.bool v.list, .bool v.hinted, .slice aA1 an1 ac1, .slice aA2 an2 ac2, .slice aA3 an3 ac3] 25) = wx at *
    have q0 := (boxed hkx) 0 _ rfl; have q1 := (boxed hkx) 1 _ rfl
    have p0 := (boxed hix) 0 _ rfl; have p1 := (boxed hix) 1 _ rfl
    go_wp2_with fail
    refine Calls.mono (refksame_c xs xs xd xd _ _ _ _ _ _ _ _ _ (fun b hb => by omega) (fun b hb => by omega) HE.out HL.out) ?_
    rintro e wx ⟨rfl, hB⟩
    rw [keySame_refl]
    clear q0 q1 p0 p1
    (try have HL2 := Lib.hid (slKeepS HL2.out hB (by intro b hb; first | omega | (simp only [false_or] at hb; omega))))
    (try have HS := Lib.hid (HS.out.trans (hB.mono (by omega))))
    (try have HK := Lib.hid (slKeepS HK.out hB (by intro b hb; first | omega | (have := hS b hb; omega))))
    (try have pa := pa.keepS hB (by intro b hb; first | omega | (simp only [false_or] at hb; omega)))
    (try have pb := pb.keepS hB (by intro b hb; first | omega | (simp only [false_or] at hb; omega)))
    (try have pc := pc.keepS hB (by intro b hb; first | omega | (simp only [false_or] at hb; omega)))
    (try have pd := pd.keepS hB (by intro b hb; first | omega | (simp only [false_or] at hb; omega)))
    (try have pe := pe.keepS hB (by intro b hb; first | omega | (simp only [false_or] at hb; omega)))
    (try have HE := Lib.hid (slKeepS HE.out hB (by intro b hb; first | omega | (simp only [false_or] at hb; omega))))
    (try have HL := Lib.hid (slKeepS HL.out hB (by intro b hb; first | omega | (simp only [false_or] at hb; omega))))
    (try have hdx := box_below hdx hB (Array.getElem?_eq_some_iff.1 hdx).1)
    (try have hrx := box_below hrx hB (Array.getElem?_eq_some_iff.1 hrx).1)
    (try have hkx := box_below hkx hB (Array.getElem?_eq_some_iff.1 hkx).1)
    (try have hix := box_below hix hB (Array.getElem?_eq_some_iff.1 hix).1)
    (try have hjx := box_below hjx hB (Array.getElem?_eq_some_iff.1 hjx).1)
    have HX := Lib.hid (below_then HX.out hB)
    have hz := hB.size
    clear hB
    have q0 := (boxed hjx) 0 _ rfl; have q1 := (boxed hjx) 1 _ rfl; have q2 := (boxed hjx) 2 _ rfl; have q3 := (boxed hjx) 3 _ rfl; have q4 := (boxed hjx) 4 _ rfl
    have p0 := (boxed hdx) 0 _ rfl; have p1 := (boxed hdx) 1 _ rfl; have p2 := (boxed hdx) 2 _ rfl; have p3 := (boxed hdx) 3 _ rfl; have p4 := (boxed hdx) 4 _ rfl
    go_wp2_with fail
    refine Calls.mono (sameref_c v v _ _ _ (pa.more (by intro b hb; omega)).rd (HP.out.later HX.out).rd) ?_
    rintro e wx ⟨rfl, hB⟩
    rw [Tree.same_refl]
    clear q0 q1 q2 q3 q4 p0 p1 p2 p3 p4
    (try have HL2 := Lib.hid (slKeepS HL2.out hB (by intro b hb; first | omega | (simp only [false_or] at hb; omega))))
    (try have HS := Lib.hid (HS.out.trans (hB.mono (by omega))))
    (try have HK := Lib.hid (slKeepS HK.out hB (by intro b hb; first | omega | (have := hS b hb; omega))))
    (try have pa := pa.keepS hB (by intro b hb; first | omega | (simp only [false_or] at hb; omega)))
    (try have pb := pb.keepS hB (by intro b hb; first | omega | (simp only [false_or] at hb; omega)))
    (try have pc := pc.keepS hB (by intro b hb; first | omega | (simp only [false_or] at hb; omega)))
    (try have pd := pd.keepS hB (by intro b hb; first | omega | (simp only [false_or] at hb; omega)))
    (try have pe := pe.keepS hB (by intro b hb; first | omega | (simp only [false_or] at hb; omega)))
    (try have HE := Lib.hid (slKeepS HE.out hB (by intro b hb; first | omega | (simp only [false_or] at hb; omega))))
    (try have HL := Lib.hid (slKeepS HL.out hB (by intro b hb; first | omega | (simp only [false_or] at hb; omega))))
    (try have hdx := box_below hdx hB (Array.getElem?_eq_some_iff.1 hdx).1)
    (try have hrx := box_below hrx hB (Array.getElem?_eq_some_iff.1 hrx).1)
    (try have hkx := box_below hkx hB (Array.getElem?_eq_some_iff.1 hkx).1)
    (try have hix := box_below hix hB (Array.getElem?_eq_some_iff.1 hix).1)
    (try have hjx := box_below hjx hB (Array.getElem?_eq_some_iff.1 hjx).1)
    have HX := Lib.hid (below_then HX.out hB)
    have hz := hB.size
    clear hB
    go_wp2_with fail
    refine Calls.mono (awake14_c _ (HTT.out.next HX.out)) ?_
    rintro e wx ⟨rfl, hB⟩
    (try have HL2 := Lib.hid (slKeepS HL2.out hB (by intro b hb; first | omega | (simp only [false_or] at hb; omega))))
    (try have HS := Lib.hid (HS.out.trans (hB.mono (by omega))))
    (try have HK := Lib.hid (slKeepS HK.out hB (by intro b hb; first | omega | (have := hS b hb; omega))))
    (try have pa := pa.keepS hB (by intro b hb; first | omega | (simp only [false_or] at hb; omega)))
    (try have pb := pb.keepS hB (by intro b hb; first | omega | (simp only [false_or] at hb; omega)))
    (try have pc := pc.keepS hB (by intro b hb; first | omega | (simp only [false_or] at hb; omega)))
    (try have pd := pd.keepS hB (by intro b hb; first | omega | (simp only [false_or] at hb; omega)))
    (try have pe := pe.keepS hB (by intro b hb; first | omega | (simp only [false_or] at hb; omega)))
    (try have HE := Lib.hid (slKeepS HE.out hB (by intro b hb; first | omega | (simp only [false_or] at hb; omega))))
    (try have HL := Lib.hid (slKeepS HL.out hB (by intro b hb; first | omega | (simp only [false_or] at hb; omega))))
    (try have hdx := box_below hdx hB (Array.getElem?_eq_some_iff.1 hdx).1)
    (try have hrx := box_below hrx hB (Array.getElem?_eq_some_iff.1 hrx).1)
    (try have hkx := box_below hkx hB (Array.getElem?_eq_some_iff.1 hkx).1)
    (try have hix := box_below hix hB (Array.getElem?_eq_some_iff.1 hix).1)
    (try have hjx := box_below hjx hB (Array.getElem?_eq_some_iff.1 hjx).1)
    have HX := Lib.hid (below_then HX.out hB)
    have hz := hB.size
    clear hB
    go_wp2
    go_ret
    exact ⟨rfl, HX.out⟩
end Go.Proofs.YtdakeodebgggfaaDoor
