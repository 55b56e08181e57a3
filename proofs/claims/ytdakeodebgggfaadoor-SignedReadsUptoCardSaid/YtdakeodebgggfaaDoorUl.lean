/- A signed value is got alike by the program and the reference; are two the same. -/
import Derived.Test.YtdakeodebgggfaaDoorUk
namespace Go.Proofs.YtdakeodebgggfaaDoor
open Go.RowKit
set_option linter.unusedVariables false
set_option linter.unusedSimpArgs false

theorem sget_spec {v : Tree} {x : Sgn} (h : sget v = some x) : sMay x.1 x.2.1 x.2.2 = true ∧ v = signedT x.1 x.2.1 x.2.2 := by
  unfold sget at h
  split at h
  · rename_i hq
    injection h with h
    subst h
    simp only [Bool.and_eq_true] at hq
    exact ⟨hq.1.2, Tree.same_true.1 hq.2⟩
  · cases h
theorem sMay_parts {b : Tree} {p s : List UInt8} (h : sMay b p s = true) : p.length = 32 ∧ s.length = 64 ∧ (signedT b p s).may = true := by
  simp only [sMay, Bool.and_eq_true, beq_iff_eq] at h
  exact ⟨h.1.1, h.1.2, h.2⟩
theorem signedT_kids (b : Tree) (p s : List UInt8) : (signedT b p s).kids = [atomT tSigned, b, keyV false p, atomT s] := rfl
theorem may_clean {t : Tree} (h : t.may = true) : t.clean = true := by
  simp only [Tree.may, Bool.and_eq_true] at h
  exact h.1.1.1
theorem getK_false {p : List UInt8} (h : p.length = 32) : getK (keyV false p) = some (false, p) := getK_iff.2 ⟨by simp [keyMay, h], rfl⟩
theorem sget_mk {b : Tree} {p s : List UInt8} (h : sMay b p s = true) : sget (signedT b p s) = some (b, p, s) := by
  obtain ⟨h1, h2, h3⟩ := sMay_parts h
  have e : sCand (signedT b p s) = (b, p, s) := by
    simp only [sCand, Tree.kid, signedT_kids]
    rw [show ([atomT tSigned, b, keyV false p, atomT s].getD 2 zeroT) = keyV false p from rfl, getK_false h1]
    rfl
  rw [sget, e, h3, h, Tree.same_refl]
  rfl
theorem rsget_mk {b : Tree} {p s : List UInt8} (h : sMay b p s = true) : rsget (signedT b p s) = some (b, p, s) := by
  obtain ⟨h1, h2, h3⟩ := sMay_parts h
  have hc := may_clean h3
  have e2 : (signedT b p s).kid 2 = keyV false p := rfl
  have e3 : (signedT b p s).kid 3 = atomT s := rfl
  have e1 : (signedT b p s).kid 1 = b := rfl
  have hk : rgetK (keyV false p) = some (false, p) := by
    rw [rgetK_eq (by rw [← e2]; exact Tree.kid_clean hc (by rw [signedT_kids]; simp))]
    exact getK_false h1
  have hh : headB (signedT b p s) tSigned = true := (headB_iff hc).2 ⟨_, rfl⟩
  rw [rsget, h3, hh, e2, e3, e1, hk, signedT_kids]
  simp [plainB, atomT, Tree.list, Tree.hinted, Tree.data, h2, keyOr]
theorem rsget_spec {v : Tree} {x : Sgn} (h : rsget v = some x) : sMay x.1 x.2.1 x.2.2 = true ∧ v = signedT x.1 x.2.1 x.2.2 := by
  unfold rsget at h
  split at h
  · rename_i hq
    injection h with h
    simp only [Bool.and_eq_true, beq_iff_eq, Bool.not_eq_true'] at hq
    obtain ⟨⟨⟨⟨⟨hm, hh⟩, hn⟩, hk⟩, hs⟩, hp⟩ := hq
    have hc := may_clean hm
    have hc2 : (v.kid 2).clean = true := Tree.kid_clean hc (by omega)
    have hc3 : (v.kid 3).clean = true := Tree.kid_clean hc (by omega)
    obtain ⟨⟨ks, d⟩, hkd⟩ := Option.isSome_iff_exists.1 hk
    rw [hkd] at hs h
    simp only [keyOr, Option.getD_some] at hs h
    subst hs
    obtain ⟨hkm, hke⟩ := (rgetK_iff hc2).1 hkd
    obtain ⟨hpe, hpl⟩ := (plainB_iff (Tree.clean_parts hc3).1).1 hp
    obtain ⟨l, hl⟩ := (headB_iff hc).1 hh
    have hkids : v.kids = atomT tSigned :: l := by rw [hl]; rfl
    rw [hkids] at hn
    have hve : v = signedT (v.kid 1) d (v.kid 3).data := by
      have e1 : v.kid 1 = l.getD 0 zeroT := by rw [Tree.kid, hkids]; rfl
      have e2 : v.kid 2 = l.getD 1 zeroT := by rw [Tree.kid, hkids]; rfl
      have e3 : v.kid 3 = l.getD 2 zeroT := by rw [Tree.kid, hkids]; rfl
      rw [signedT, ← hke, ← hpe, e1, e2, e3, hl]
      match l, hn with
      | [x, y, z], _ => rfl
    rw [← h]
    refine ⟨?_, hve⟩
    dsimp only
    rw [sMay, ← hve, hm, hpl]
    simp only [keyMay, Bool.false_eq_true, if_false] at hkm
    rw [hkm]
    rfl
  · cases h
theorem rsget_eq (v : Tree) : rsget v = sget v := by
  cases h : sget v with
  | some x =>
    obtain ⟨h1, h2⟩ := sget_spec h
    rw [h2]
    exact rsget_mk h1
  | none =>
    cases h' : rsget v with
    | none => rfl
    | some x =>
      obtain ⟨h1, h2⟩ := rsget_spec h'
      rw [h2, sget_mk h1] at h
      cases h

noncomputable def sgnSame (s u : Sgn) : Bool := s.1.same u.1 && (s.2.1 == u.2.1) && (s.2.2 == u.2.2)
theorem sgnSame_refl (s : Sgn) : sgnSame s s = true := by simp [sgnSame, Tree.same_refl]

set_option maxHeartbeats 1000000 in
set_option maxRecDepth 100000 in
theorem same18_c (s u : Sgn) (w : World) (A1 A2 A3 Ap As B1 B2 B3 Bp Bs : Option Addr) (n1 c1 n2 c2 n3 c3 np cp ns cs m1 d1 m2 d2 m3 d3 mp dp ms ds : Nat) (h : SParts w (fun b => b < w.heap.size) s A1 n1 c1 A2 n2 c2 A3 n3 c3 Ap np cp As ns cs) (h' : SParts w (fun b => b < w.heap.size) u B1 m1 d1 B2 m2 d2 B3 m3 d3 Bp mp dp Bs ms ds) :
    Calls Tryd.prog 13 #[signV s A1 n1 c1 A2 n2 c2 A3 n3 c3 Ap np cp As ns cs, signV u B1 m1 d1 B2 m2 d2 B3 m3 d3 Bp mp dp Bs ms ds] w (Tells w (.bool (sgnSame s u))) := by
  have HX := Lib.hid ((Below.alloc (Below.refl _ w) (Nat.le_refl _) (.cells #[.bool s.1.list, .bool s.1.hinted, .slice A1 n1 c1, .slice A2 n2 c2, .slice A3 n3 c3, .slice Ap np cp, .slice As ns cs] 29)).alloc (by simp only [World.size_alloc]; omega) (.cells #[.bool u.1.list, .bool u.1.hinted, .slice B1 m1 d1, .slice B2 m2 d2, .slice B3 m3 d3, .slice Bp mp dp, .slice Bs ms ds] 29))
  have hdx := box_alloc (box_new w #[.bool s.1.list, .bool s.1.hinted, .slice A1 n1 c1, .slice A2 n2 c2, .slice A3 n3 c3, .slice Ap np cp, .slice As ns cs] 29) (.cells #[.bool u.1.list, .bool u.1.hinted, .slice B1 m1 d1, .slice B2 m2 d2, .slice B3 m3 d3, .slice Bp mp dp, .slice Bs ms ds] 29)
  have hkx := box_new1 (w := w) (o := .cells #[.bool s.1.list, .bool s.1.hinted, .slice A1 n1 c1, .slice A2 n2 c2, .slice A3 n3 c3, .slice Ap np cp, .slice As ns cs] 29) (cs := #[.bool u.1.list, .bool u.1.hinted, .slice B1 m1 d1, .slice B2 m2 d2, .slice B3 m3 d3, .slice Bp mp dp, .slice Bs ms ds]) (t := 29)
  have HP := Lib.hid h
  have HQ := Lib.hid h'
  have hz : w.heap.size ≤ w.heap.size := Nat.le_refl _
  clear h h'
  simp only [signV]
  go_enter Tryd.func13, Tryd.ntmps13
  go_upto_region 1 with fail
  generalize (w.alloc (.cells #[.bool s.1.list, .bool s.1.hinted, .slice A1 n1 c1, .slice A2 n2 c2, .slice A3 n3 c3, .slice Ap np cp, .slice As ns cs] 29)).alloc (.cells #[.bool u.1.list, .bool u.1.hinted, .slice B1 m1 d1, .slice B2 m2 d2, .slice B3 m3 d3, .slice Bp mp dp, .slice Bs ms ds] 29) = wx at *
  have q0 := (boxed hdx) 0 _ rfl; have q1 := (boxed hdx) 1 _ rfl; have q2 := (boxed hdx) 2 _ rfl; have q3 := (boxed hdx) 3 _ rfl; have q4 := (boxed hdx) 4 _ rfl; have q5 := (boxed hdx) 5 _ rfl; have q6 := (boxed hdx) 6 _ rfl
  have p0 := (boxed hkx) 0 _ rfl; have p1 := (boxed hkx) 1 _ rfl; have p2 := (boxed hkx) 2 _ rfl; have p3 := (boxed hkx) 3 _ rfl; have p4 := (boxed hkx) 4 _ rfl; have p5 := (boxed hkx) 5 _ rfl; have p6 := (boxed hkx) 6 _ rfl
  go_wp2_with fail
  refine Calls.mono (sameref_c s.1 u.1 _ _ _ (HP.out.1.later HX.out).rd (HQ.out.1.later HX.out).rd) ?_
  rintro e wx ⟨rfl, hB⟩
  clear q0 q1 q2 q3 q4 q5 q6 p0 p1 p2 p3 p4 p5 p6
  (try have HL2 := Lib.hid (slKeepS HL2.out hB (by intro b hb; first | omega | (simp only [false_or] at hb; omega))))
  (try have HS := Lib.hid (HS.out.trans (hB.mono (by omega))))
  (try have HK := Lib.hid (slKeepS HK.out hB (by intro b hb; first | omega | (have := hS b hb; omega))))
  (try have pa := pa.keepS hB (by intro b hb; first | omega | (simp only [false_or] at hb; omega)))
  (try have pb := pb.keepS hB (by intro b hb; first | omega | (simp only [false_or] at hb; omega)))
  (try have pc := pc.keepS hB (by intro b hb; first | omega | (simp only [false_or] at hb; omega)))
  (try have pd := pd.keepS hB (by intro b hb; first | omega | (simp only [false_or] at hb; omega)))
  (try have pe := pe.keepS hB (by intro b hb; first | omega | (simp only [false_or] at hb; omega)))
  (try have HE := Lib.hid (slKeepS HE.out hB (by intro b hb; first | omega | (simp only [false_or] at hb; omega))))
  (try have HL := Lib.hid (slKeepS HL.out hB (by intro b hb; first | omega | (simp only [false_or] at hb; omega))))
  (try have hdx := box_below hdx hB (Array.getElem?_eq_some_iff.1 hdx).1)
  (try have hrx := box_below hrx hB (Array.getElem?_eq_some_iff.1 hrx).1)
  (try have hkx := box_below hkx hB (Array.getElem?_eq_some_iff.1 hkx).1)
  (try have hix := box_below hix hB (Array.getElem?_eq_some_iff.1 hix).1)
  (try have hjx := box_below hjx hB (Array.getElem?_eq_some_iff.1 hjx).1)
  have HX := Lib.hid (below_then HX.out hB)
  have hz := hB.size
  clear hB
  have q0 := (boxed hdx) 0 _ rfl; have q1 := (boxed hdx) 1 _ rfl; have q2 := (boxed hdx) 2 _ rfl; have q3 := (boxed hdx) 3 _ rfl; have q4 := (boxed hdx) 4 _ rfl; have q5 := (boxed hdx) 5 _ rfl; have q6 := (boxed hdx) 6 _ rfl
  have p0 := (boxed hkx) 0 _ rfl; have p1 := (boxed hkx) 1 _ rfl; have p2 := (boxed hkx) 2 _ rfl; have p3 := (boxed hkx) 3 _ rfl; have p4 := (boxed hkx) 4 _ rfl; have p5 := (boxed hkx) 5 _ rfl; have p6 := (boxed hkx) 6 _ rfl
  have ka := conv_bs Tryd.underlying22 Tryd.underlying5 Tryd.underlying9 (sl_later HP.out.2.1 HX.out)
  have kb := conv_bs Tryd.underlying22 Tryd.underlying5 Tryd.underlying9 (sl_later HQ.out.2.1 HX.out)
  have kc := conv_bs Tryd.underlying22 Tryd.underlying5 Tryd.underlying9 (sl_later HP.out.2.2 HX.out)
  have kd := conv_bs Tryd.underlying22 Tryd.underlying5 Tryd.underlying9 (sl_later HQ.out.2.2 HX.out)
  cases h1 : s.1.same u.1 with
  | false =>
    have HE : Hid (sgnSame s u = false) := by show _ = _; rw [sgnSame, h1]; rfl
    go_wp2
    go_ret
    exact ⟨by rw [HE.out]; rfl, HX.out⟩
  | true =>
  by_cases h2 : s.2.1 = u.2.1
  · by_cases h3 : s.2.2 = u.2.2
    · have HE : Hid (sgnSame s u = true) := by show _ = _; rw [sgnSame, h1, h2, h3]; simp
      have j2 : (s.2.1 == u.2.1) = true := by simp [h2]
      have j3 : (s.2.2 == u.2.2) = true := by simp [h3]
      go_wp2
      go_ret
      exact ⟨by rw [HE.out]; rfl, HX.out⟩
    · have HE : Hid (sgnSame s u = false) := by show _ = _; rw [sgnSame, beq_eq_false_iff_ne.2 h3, Bool.and_false]
      have j2 : (s.2.1 == u.2.1) = true := by simp [h2]
      have j3 : (s.2.2 == u.2.2) = false := by simp [h3]
      go_wp2
      go_ret
      exact ⟨by rw [HE.out]; rfl, HX.out⟩
  · have HE : Hid (sgnSame s u = false) := by show _ = _; rw [sgnSame, beq_eq_false_iff_ne.2 h2, Bool.and_false]; rfl
    have j2 : (s.2.1 == u.2.1) = false := by simp [h2]
    go_wp2
    go_ret
    exact ⟨by rw [HE.out]; rfl, HX.out⟩
end Go.Proofs.YtdakeodebgggfaaDoor
