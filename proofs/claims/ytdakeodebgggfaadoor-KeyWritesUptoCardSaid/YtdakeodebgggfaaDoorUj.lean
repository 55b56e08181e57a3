/- A signed value of a value, as the program gets it. -/
import Derived.Test.YtdakeodebgggfaaDoorUi
namespace Go.Proofs.YtdakeodebgggfaaDoor
open Go.RowKit
set_option linter.unusedVariables false
set_option linter.unusedSimpArgs false

theorem belowCell {B : Nat} {w w1 : World} (h : Below B w w1) {p : Addr} {v : Value} (hc : w.cell? p = some v) (hp : p.block < B) : w1.cell? p = some v := (World.cell?_of_block (h.block p.block hp)).trans hc
abbrev Sgn := Tree × List UInt8 × List UInt8
/-- A signed value's seven cells. -/
def SParts (w : World) (S : Nat → Prop) (s : Sgn) (A1 : Option Addr) (n1 c1 : Nat) (A2 : Option Addr) (n2 c2 : Nat) (A3 : Option Addr) (n3 c3 : Nat) (Ap : Option Addr) (np cp : Nat) (As : Option Addr) (ns cs : Nat) : Prop :=
  Parts w S s.1 A1 n1 c1 A2 n2 c2 A3 n3 c3 ∧ Rep.u8.sl w S Ap np cp s.2.1 ∧ Rep.u8.sl w S As ns cs s.2.2
theorem SParts.keepS {w w1 : World} {S : Nat → Prop} {s : Sgn} {A1 A2 A3 Ap As : Option Addr} {n1 c1 n2 c2 n3 c3 np cp ns cs : Nat} (hp : SParts w S s A1 n1 c1 A2 n2 c2 A3 n3 c3 Ap np cp As ns cs) (hB : Below w.heap.size w w1) (hS : ∀ b, S b → b < w.heap.size) : SParts w1 S s A1 n1 c1 A2 n2 c2 A3 n3 c3 Ap np cp As ns cs :=
  ⟨hp.1.keepS hB hS, slKeepS hp.2.1 hB hS, slKeepS hp.2.2 hB hS⟩
theorem SParts.farS {w w1 : World} {S : Nat → Prop} {s : Sgn} {A1 A2 A3 Ap As : Option Addr} {n1 c1 n2 c2 n3 c3 np cp ns cs g : Nat} (hp : SParts w S s A1 n1 c1 A2 n2 c2 A3 n3 c3 Ap np cp As ns cs) (hg : w.grownBy w1 (some g)) (hS : ∀ b, S b → b < w.heap.size ∧ b ≠ g) : SParts w1 S s A1 n1 c1 A2 n2 c2 A3 n3 c3 Ap np cp As ns cs :=
  ⟨hp.1.farS hg hS, slFarS hp.2.1 hg hS, slFarS hp.2.2 hg hS⟩
theorem SParts.more {w : World} {S S' : Nat → Prop} {s : Sgn} {A1 A2 A3 Ap As : Option Addr} {n1 c1 n2 c2 n3 c3 np cp ns cs : Nat} (hp : SParts w S s A1 n1 c1 A2 n2 c2 A3 n3 c3 Ap np cp As ns cs) (hS : ∀ b, S b → S' b) : SParts w S' s A1 n1 c1 A2 n2 c2 A3 n3 c3 Ap np cp As ns cs :=
  ⟨hp.1.more hS, Rep.sl_more hp.2.1 hS, Rep.sl_more hp.2.2 hS⟩
def signV (s : Sgn) (A1 : Option Addr) (n1 c1 : Nat) (A2 : Option Addr) (n2 c2 : Nat) (A3 : Option Addr) (n3 c3 : Nat) (Ap : Option Addr) (np cp : Nat) (As : Option Addr) (ns cs : Nat) : Value :=
  .agg #[.bool s.1.list, .bool s.1.hinted, .slice A1 n1 c1, .slice A2 n2 c2, .slice A3 n3 c3, .slice Ap np cp, .slice As ns cs]
def SignPost (w : World) (S : Nat → Prop) (s : Sgn) (x : Value) (e : Ending) (w' : World) : Prop := ∃ A1 n1 c1 A2 n2 c2 A3 n3 c3 Ap np cp As ns cs, e = .returned (.tuple #[signV s A1 n1 c1 A2 n2 c2 A3 n3 c3 Ap np cp As ns cs, x]) ∧
  SParts w' (fun b => S b ∨ (w.heap.size ≤ b ∧ b < w'.heap.size)) s A1 n1 c1 A2 n2 c2 A3 n3 c3 Ap np cp As ns cs ∧ Below w.heap.size w w'
def put7 (w : World) (g o : Nat) (a b c d e f k : Value) : World := (((((((w.setCell ⟨g, o, none⟩ a).setCell ⟨g, o + 1, none⟩ b).setCell ⟨g, o + 2, none⟩ c).setCell ⟨g, o + 3, none⟩ d).setCell ⟨g, o + 4, none⟩ e)).setCell ⟨g, o + 5, none⟩ f).setCell ⟨g, o + 6, none⟩ k
theorem put7_grown (w : World) (g o : Nat) (a b c d e f k : Value) : w.grownBy (put7 w g o a b c d e f k) (some g) := grownBy_set (grownBy_set (put5_grown w g o a b c d e) f) k
theorem put7_size (w : World) (g o : Nat) (a b c d e f k : Value) : (put7 w g o a b c d e f k).heap.size = w.heap.size := by simp only [put7, World.size_setCell]
theorem put7_box {w : World} {g : Nat} {cur : Array Value} {t : TypeId} (h : w.heap[g]? = some (.cells cur t (0, 0))) (o : Nat) (a b c d e f k : Value) : (put7 w g o a b c d e f k).heap[g]? = some (.cells (((((((cur.setIfInBounds o a).setIfInBounds (o + 1) b).setIfInBounds (o + 2) c).setIfInBounds (o + 3) d).setIfInBounds (o + 4) e).setIfInBounds (o + 5) f).setIfInBounds (o + 6) k) t (0, 0)) :=
  box_set (box_set (put5_box h o a b c d e) f) k
theorem sign_ret2 {P : Program} {fn : Func} {a : Act} {w w2 : World} {S S' : Nat → Prop} {s : Sgn} {x : Value} {g : Nat} {A1 A2 A3 Ap As : Option Addr} {n1 c1 n2 c2 n3 c3 np cp ns cs : Nat}
    (hr : (results fn a.tmps).run P (put7 w2 g 0 (.bool s.1.list) (.bool s.1.hinted) (.slice A1 n1 c1) (.slice A2 n2 c2) (.slice A3 n3 c3) (.slice Ap np cp) (.slice As ns cs)) = .ok (.tuple #[signV s A1 n1 c1 A2 n2 c2 A3 n3 c3 Ap np cp As ns cs, x]) (put7 w2 g 0 (.bool s.1.list) (.bool s.1.hinted) (.slice A1 n1 c1) (.slice A2 n2 c2) (.slice A3 n3 c3) (.slice Ap np cp) (.slice As ns cs))) (hd : a.defers = [])
    (hp : SParts w2 S' s A1 n1 c1 A2 n2 c2 A3 n3 c3 Ap np cp As ns cs) (hS : ∀ b, S' b → (S b ∨ w.heap.size ≤ b) ∧ b < w2.heap.size ∧ b ≠ g) (hB : Below w.heap.size w w2) (hg : w.heap.size ≤ g) (hg2 : g < w2.heap.size) :
    bodyPost P fn (SignPost w S s x) .ret a (put7 w2 g 0 (.bool s.1.list) (.bool s.1.hinted) (.slice A1 n1 c1) (.slice A2 n2 c2) (.slice A3 n3 c3) (.slice Ap np cp) (.slice As ns cs)) :=
  bodyPost_ret hr hd ⟨_, _, _, _, _, _, _, _, _, _, _, _, _, _, _, rfl, (hp.farS (put7_grown ..) fun b hb => (hS b hb).2).more (fun b hb => by
    rw [put7_size]
    rcases (hS b hb).1 with h | h
    · exact .inl h
    · exact .inr ⟨h, (hS b hb).2.1⟩), hB.grown (put7_grown ..) hB.size fun k hk => by injection hk; omega⟩

def zeroS : Sgn := (zeroT, [], [])
noncomputable def sCand (v : Tree) : Sgn := (v.kid 1, (keyOr (getK (v.kid 2))).2, (v.kid 3).data)
noncomputable def sget (v : Tree) : Option Sgn := if v.kids.length == 4 && v.may && sMay (sCand v).1 (sCand v).2.1 (sCand v).2.2 && v.same (signedT (sCand v).1 (sCand v).2.1 (sCand v).2.2) then some (sCand v) else none
theorem zeroS_parts {w : World} : SParts w (fun _ => False) zeroS none 0 0 none 0 0 none 0 0 none 0 0 none 0 0 := ⟨⟨Rep.sl_nil, Rep.sl_nil, Rep.sl_nil⟩, Rep.sl_nil, Rep.sl_nil⟩
theorem kid_wt' (v : Tree) (i : Nat) : (v.kid i).wt ≤ v.wt := by
  by_cases h : i < v.kids.length
  · exact kid_wt h
  · have : v.kid i = zeroT := by
      rw [Tree.kid, List.getD, List.getElem?_eq_none (by omega)]
      rfl
    rw [this, Tree.wt_eq v, Tree.wt_eq zeroT]
    simp [zeroT, Tree.hint, Tree.data, Tree.kids]
    omega
theorem keyOr_len (v : Tree) : (keyOr (getK v)).2.length ≤ v.wt := by
  cases h : getK v with
  | none => exact Nat.zero_le _
  | some k =>
    have : candK v = some k := by
      obtain ⟨s, d⟩ := k
      have := (getK_iff.1 h).2
      rw [this]
      exact candK_keyV s d
    exact candK_len this

set_option maxHeartbeats 4000000 in
set_option maxRecDepth 100000 in
theorem sget_c (v : Tree) (w : World) (cs : List Value) (h : Rep.tree.rd w (fun b => b < w.heap.size) cs v) (hT : Tabs w.heap.size w) (hw : v.wt ≤ 2000000) :
    Calls Tryd.prog 11 #[.agg cs.toArray] w (SignPost w (fun _ => False) ((sget v).getD zeroS) (.int .i64 (if (sget v).isSome then 0 else 3))) := by
  obtain ⟨A1, n1, c1, A2, n2, c2, A3, n3, c3, rfl, hp⟩ := Rep.tree_open h
  have HP := Lib.hid hp
  have HTT := Lib.hid hT
  have HN := Lib.hid hp.2.2.1
  have HX := Lib.hid ((Below.alloc (Below.refl _ w) (Nat.le_refl _) (.cells #[.bool v.list, .bool v.hinted, .slice A1 n1 c1, .slice A2 n2 c2, .slice A3 n3 c3] 25)).alloc (by simp only [World.size_alloc]; omega) (.cells #[.bool false, .bool false, .slice none 0 0, .slice none 0 0, .slice none 0 0, .slice none 0 0, .slice none 0 0] 29))
  have hdx := box_alloc (box_new w #[.bool v.list, .bool v.hinted, .slice A1 n1 c1, .slice A2 n2 c2, .slice A3 n3 c3] 25) (.cells #[.bool false, .bool false, .slice none 0 0, .slice none 0 0, .slice none 0 0, .slice none 0 0, .slice none 0 0] 29)
  have hrx := box_new1 (w := w) (o := .cells #[.bool v.list, .bool v.hinted, .slice A1 n1 c1, .slice A2 n2 c2, .slice A3 n3 c3] 25) (cs := #[.bool false, .bool false, .slice none 0 0, .slice none 0 0, .slice none 0 0, .slice none 0 0, .slice none 0 0]) (t := 29)
  have hz : w.heap.size + 2 ≤ ((w.alloc (.cells #[.bool v.list, .bool v.hinted, .slice A1 n1 c1, .slice A2 n2 c2, .slice A3 n3 c3] 25)).alloc (.cells #[.bool false, .bool false, .slice none 0 0, .slice none 0 0, .slice none 0 0, .slice none 0 0, .slice none 0 0] 29)).heap.size := by simp only [World.size_alloc]; omega
  have hnc := hp.2.2.2.1
  clear h hT
  generalize hpo : (if (sget v).isSome then (0 : Int) else 3) = ek
  have HEK := Lib.hid hpo
  clear hpo
  go_enter Tryd.func11, Tryd.ntmps11
  go_upto_region 1 with fail
  generalize (w.alloc (.cells #[.bool v.list, .bool v.hinted, .slice A1 n1 c1, .slice A2 n2 c2, .slice A3 n3 c3] 25)).alloc (.cells #[.bool false, .bool false, .slice none 0 0, .slice none 0 0, .slice none 0 0, .slice none 0 0, .slice none 0 0] 29) = wx at *
  by_cases h4 : n3 = 4
  · have h4' : (n3 : Int) = 4 := by omega
    have h4n : 3 < n3 := by omega
    have H4 := Lib.hid h4
    clear h4
    obtain ⟨kba, koa, aA1, an1, ac1, aA2, an2, ac2, aA3, an3, ac3, hAa, hba, hpa, a0, a1, a2, a3, a4⟩ := kid_at' (t := v) (k := 1) hp.2.2 (by omega)
    simp only [show 1 * 5 = 5 from rfl, Nat.add_assoc, Nat.reduceAdd] at a0 a1 a2 a3 a4
    obtain ⟨kbk, kok, kA1, kn1, kc1, kA2, kn2, kc2, kA3, kn3, kc3, hAk, hbk, hpk, k0, k1, k2, k3, k4⟩ := kid_at' (t := v) (k := 2) hp.2.2 (by omega)
    simp only [show 2 * 5 = 10 from rfl, Nat.add_assoc, Nat.reduceAdd] at k0 k1 k2 k3 k4
    obtain ⟨kbd, kod, dA1, dn1, dc1, dA2, dn2, dc2, dA3, dn3, dc3, hAd, hbd, hpd, d0, d1, d2, d3, d4⟩ := kid_at' (t := v) (k := 3) hp.2.2 (by omega)
    simp only [show 3 * 5 = 15 from rfl, Nat.add_assoc, Nat.reduceAdd] at d0 d1 d2 d3 d4
    rw [hAa] at hAk hAd
    injection hAk with hAk
    injection hAk with e1 e2 _
    subst e1 e2
    injection hAd with hAd
    injection hAd with e1 e2 _
    subst e1 e2
    subst hAa
    have HKA := Lib.hid hpa
    have HKK := Lib.hid hpk
    have HKD := Lib.hid hpd.2.1
    clear hp hpa hpk hpd hbk hbd
    have q0 := (boxed hdx) 0 _ rfl; have q1 := (boxed hdx) 1 _ rfl; have q2 := (boxed hdx) 2 _ rfl; have q3 := (boxed hdx) 3 _ rfl; have q4 := (boxed hdx) 4 _ rfl
    go_wp2_with fail
    refine Calls.mono (sxmay_c v _ _ (HP.out.later HX.out).rd (HTT.out.next HX.out) (by omega)) ?_
    rintro e wx ⟨rfl, hB⟩
    clear q0 q1 q2 q3 q4
    (try have HL2 := Lib.hid (slKeepS HL2.out hB (by intro b hb; first | omega | (simp only [false_or] at hb; omega))))
    (try have HS := Lib.hid (HS.out.trans (hB.mono (by omega))))
    (try have HK := Lib.hid (slKeepS HK.out hB (by intro b hb; first | omega | (have := hS b hb; omega))))
    (try have pa := pa.keepS hB (by intro b hb; first | omega | (simp only [false_or] at hb; omega)))
    (try have pb := pb.keepS hB (by intro b hb; first | omega | (simp only [false_or] at hb; omega)))
    (try have pc := pc.keepS hB (by intro b hb; first | omega | (simp only [false_or] at hb; omega)))
    (try have pd := pd.keepS hB (by intro b hb; first | omega | (simp only [false_or] at hb; omega)))
    (try have pe := pe.keepS hB (by intro b hb; first | omega | (simp only [false_or] at hb; omega)))
    (try have HE := Lib.hid (slKeepS HE.out hB (by intro b hb; first | omega | (simp only [false_or] at hb; omega))))
    (try have HL := Lib.hid (slKeepS HL.out hB (by intro b hb; first | omega | (simp only [false_or] at hb; omega))))
    (try have hdx := box_below hdx hB (Array.getElem?_eq_some_iff.1 hdx).1)
    (try have hrx := box_below hrx hB (Array.getElem?_eq_some_iff.1 hrx).1)
    (try have hkx := box_below hkx hB (Array.getElem?_eq_some_iff.1 hkx).1)
    (try have hix := box_below hix hB (Array.getElem?_eq_some_iff.1 hix).1)
    (try have hjx := box_below hjx hB (Array.getElem?_eq_some_iff.1 hjx).1)
    have HX := Lib.hid (below_then HX.out hB)
    have hz := hB.size
    clear hB
    have hr0 := (boxed hrx) 0 _ rfl; have hr1 := (boxed hrx) 1 _ rfl; have hr2 := (boxed hrx) 2 _ rfl; have hr3 := (boxed hrx) 3 _ rfl; have hr4 := (boxed hrx) 4 _ rfl; have hr5 := (boxed hrx) 5 _ rfl; have hr6 := (boxed hrx) 6 _ rfl
    have hf0 := boxed_frozen hrx 0; have hf1 := boxed_frozen hrx 1; have hf2 := boxed_frozen hrx 2; have hf3 := boxed_frozen hrx 3; have hf4 := boxed_frozen hrx 4; have hf5 := boxed_frozen hrx 5; have hf6 := boxed_frozen hrx 6
    cases hmy : v.may with
    | false =>
      have HG : Hid (sget v = none) := by show _ = _; rw [sget, hmy, Bool.and_false]; rfl
      have HE3 : Hid (ek = 3) := by show _ = _; rw [← HEK.out, HG.out]; rfl
      go_wp2
      rw [HG.out, HE3.out]
      exact sign_ret2 (s := zeroS) (w2 := wx) (g := w.heap.size + 1) (by simp [results, Tryd.results11, go_sem, put7, signV, zeroS, zeroT, Tree.list, Tree.hinted, hr0, hr1, hr2, hr3, hr4, hr5, hr6]) rfl zeroS_parts (fun b (hb : False) => hb.elim) HX.out (by omega) (by omega)
    | true =>
      have q0 := (boxed hdx) 0 _ rfl; have q1 := (boxed hdx) 1 _ rfl; have q2 := (boxed hdx) 2 _ rfl; have q3 := (boxed hdx) 3 _ rfl; have q4 := (boxed hdx) 4 _ rfl
      have m0 := belowCell HX.out k0 hba; have m1 := belowCell HX.out k1 hba; have m2 := belowCell HX.out k2 hba; have m3 := belowCell HX.out k3 hba; have m4 := belowCell HX.out k4 hba
      go_wp2_with fail
      refine Calls.mono (kget_c (v.kid 2) _ _ (HKK.out.later HX.out).rd (Nat.le_trans (kid_wt' v 2) (by omega))) ?_
      rintro e wx ⟨kA, kn, kc, rfl, hk, hB⟩
      generalize (if (getK (v.kid 2)).isSome then (0 : Int) else 7) = e5
      clear q0 q1 q2 q3 q4 m0 m1 m2 m3 m4 hr0 hr1 hr2 hr3 hr4 hr5 hr6 hf0 hf1 hf2 hf3 hf4 hf5 hf6
      (try have HL2 := Lib.hid (slKeepS HL2.out hB (by intro b hb; first | omega | (simp only [false_or] at hb; omega))))
      (try have HS := Lib.hid (HS.out.trans (hB.mono (by omega))))
      (try have HK := Lib.hid (slKeepS HK.out hB (by intro b hb; first | omega | (have := hS b hb; omega))))
      (try have pa := pa.keepS hB (by intro b hb; first | omega | (simp only [false_or] at hb; omega)))
      (try have pb := pb.keepS hB (by intro b hb; first | omega | (simp only [false_or] at hb; omega)))
      (try have pc := pc.keepS hB (by intro b hb; first | omega | (simp only [false_or] at hb; omega)))
      (try have pd := pd.keepS hB (by intro b hb; first | omega | (simp only [false_or] at hb; omega)))
      (try have pe := pe.keepS hB (by intro b hb; first | omega | (simp only [false_or] at hb; omega)))
      (try have HE := Lib.hid (slKeepS HE.out hB (by intro b hb; first | omega | (simp only [false_or] at hb; omega))))
      (try have HL := Lib.hid (slKeepS HL.out hB (by intro b hb; first | omega | (simp only [false_or] at hb; omega))))
      (try have hdx := box_below hdx hB (Array.getElem?_eq_some_iff.1 hdx).1)
      (try have hrx := box_below hrx hB (Array.getElem?_eq_some_iff.1 hrx).1)
      (try have hkx := box_below hkx hB (Array.getElem?_eq_some_iff.1 hkx).1)
      (try have hix := box_below hix hB (Array.getElem?_eq_some_iff.1 hix).1)
      (try have hjx := box_below hjx hB (Array.getElem?_eq_some_iff.1 hjx).1)
      have HX := Lib.hid (below_then HX.out hB)
      have hz := hB.size
      have HK := Lib.hid hk
      clear hB hk
      go_upto_region 4 with fail
      have hdl : dn2 ≤ 2000000 := by have h1 := HKD.out.1; have h2 := (v.kid 3).wt_data; have h3 := kid_wt' v 3; omega
      have hB := Below.alloc (Below.refl wx.heap.size wx) (Nat.le_refl _) (.cells #[.bool (keyOr (getK (v.kid 2))).1, .slice kA kn kc] 38)
      have hbn := box_new wx #[.bool (keyOr (getK (v.kid 2))).1, .slice kA kn kc] 38
      (try have HL2 := Lib.hid (slKeepS HL2.out hB (by intro b hb; first | omega | (simp only [false_or] at hb; omega))))
      (try have HS := Lib.hid (HS.out.trans (hB.mono (by omega))))
      (try have HK := Lib.hid (slKeepS HK.out hB (by intro b hb; first | omega | (have := hS b hb; omega))))
      (try have pa := pa.keepS hB (by intro b hb; first | omega | (simp only [false_or] at hb; omega)))
      (try have pb := pb.keepS hB (by intro b hb; first | omega | (simp only [false_or] at hb; omega)))
      (try have pc := pc.keepS hB (by intro b hb; first | omega | (simp only [false_or] at hb; omega)))
      (try have pd := pd.keepS hB (by intro b hb; first | omega | (simp only [false_or] at hb; omega)))
      (try have pe := pe.keepS hB (by intro b hb; first | omega | (simp only [false_or] at hb; omega)))
      (try have HE := Lib.hid (slKeepS HE.out hB (by intro b hb; first | omega | (simp only [false_or] at hb; omega))))
      (try have HL := Lib.hid (slKeepS HL.out hB (by intro b hb; first | omega | (simp only [false_or] at hb; omega))))
      (try have hdx := box_below hdx hB (Array.getElem?_eq_some_iff.1 hdx).1)
      (try have hrx := box_below hrx hB (Array.getElem?_eq_some_iff.1 hrx).1)
      (try have hkx := box_below hkx hB (Array.getElem?_eq_some_iff.1 hkx).1)
      (try have hix := box_below hix hB (Array.getElem?_eq_some_iff.1 hix).1)
      (try have hjx := box_below hjx hB (Array.getElem?_eq_some_iff.1 hjx).1)
      have HX := Lib.hid (below_then HX.out hB)
      have hz := hB.size
      have hkx := hbn
      have hgl := (Array.getElem?_eq_some_iff.1 hkx).1
      clear hB hbn
      generalize hgk3 : wx.heap.size = gk3 at *
      generalize wx.alloc (.cells #[.bool (keyOr (getK (v.kid 2))).1, .slice kA kn kc] 38) = wx at *
      go_cut [6] (fun s6 wx => ∃ gi cA1 cn1 cc1 cA2 cn2 cc2 cA3 cn3 cc3 cAp cnp ccp cAs cns ccs, s6 = .pointer (some ⟨gi, 0, none⟩) ∧ Hid (SParts wx (fun b => w.heap.size + 2 ≤ b ∧ b < wx.heap.size ∧ b ≠ gi) (sCand v) cA1 cn1 cc1 cA2 cn2 cc2 cA3 cn3 cc3 cAp cnp ccp cAs cns ccs) ∧
        wx.heap[gi]? = some (.cells #[.bool (v.kid 1).list, .bool (v.kid 1).hinted, .slice cA1 cn1 cc1, .slice cA2 cn2 cc2, .slice cA3 cn3 cc3, .slice cAp cnp ccp, .slice cAs cns ccs] 29 (0, 0)) ∧
        wx.heap[w.heap.size]? = some (.cells #[.bool v.list, .bool v.hinted, .slice A1 n1 c1, .slice A2 n2 c2, .slice (some ⟨kba, koa, none⟩) n3 c3] 25 (0, 0)) ∧ wx.heap[w.heap.size + 1]? = some (.cells #[.bool false, .bool false, .slice none 0 0, .slice none 0 0, .slice none 0 0, .slice none 0 0, .slice none 0 0] 29 (0, 0)) ∧ Hid (Below w.heap.size w wx) ∧ w.heap.size + 2 ≤ gi)
      case first =>
        have hB := (Below.refl wx.heap.size wx).drew
        (try have HL2 := Lib.hid (slKeepS HL2.out hB (by intro b hb; first | omega | (simp only [false_or] at hb; omega))))
        (try have HS := Lib.hid (HS.out.trans (hB.mono (by omega))))
        (try have HK := Lib.hid (slKeepS HK.out hB (by intro b hb; first | omega | (have := hS b hb; omega))))
        (try have pa := pa.keepS hB (by intro b hb; first | omega | (simp only [false_or] at hb; omega)))
        (try have pb := pb.keepS hB (by intro b hb; first | omega | (simp only [false_or] at hb; omega)))
        (try have pc := pc.keepS hB (by intro b hb; first | omega | (simp only [false_or] at hb; omega)))
        (try have pd := pd.keepS hB (by intro b hb; first | omega | (simp only [false_or] at hb; omega)))
        (try have pe := pe.keepS hB (by intro b hb; first | omega | (simp only [false_or] at hb; omega)))
        (try have HE := Lib.hid (slKeepS HE.out hB (by intro b hb; first | omega | (simp only [false_or] at hb; omega))))
        (try have HL := Lib.hid (slKeepS HL.out hB (by intro b hb; first | omega | (simp only [false_or] at hb; omega))))
        (try have hdx := box_below hdx hB (Array.getElem?_eq_some_iff.1 hdx).1)
        (try have hrx := box_below hrx hB (Array.getElem?_eq_some_iff.1 hrx).1)
        (try have hkx := box_below hkx hB (Array.getElem?_eq_some_iff.1 hkx).1)
        (try have hix := box_below hix hB (Array.getElem?_eq_some_iff.1 hix).1)
        (try have hjx := box_below hjx hB (Array.getElem?_eq_some_iff.1 hjx).1)
        have HX := Lib.hid (below_then HX.out hB)
        have hz := hB.size
        clear hB
        refine wp_region_D (fun w' => Below wx.drew.heap.size wx.drew w') [15] (by kernel_rfl) ?_
        generalize wx.drew = wx at *
        have HS := Lib.hid (Below.refl wx.heap.size wx)
        have hd0 := hdx
        have hk0 := hkx
        have hl0 := (Array.getElem?_eq_some_iff.1 hdx).1
        have hlk := (Array.getElem?_eq_some_iff.1 hkx).1
        have hlb : kba < wx.heap.size := by omega
        have x0 := belowCell HX.out a0 hba; have x1 := belowCell HX.out a1 hba; have x2 := belowCell HX.out a2 hba; have x3 := belowCell HX.out a3 hba; have x4 := belowCell HX.out a4 hba
        have y0 := belowCell HX.out d0 hba; have y1 := belowCell HX.out d1 hba; have y2 := belowCell HX.out d2 hba; have y3 := belowCell HX.out d3 hba; have y4 := belowCell HX.out d4 hba
        refine wpAnyD_take (i := 0) (v := ?_) rfl (by kernel_rfl) (by kernel_rfl) (by kernel_rfl) (by kernel_rfl) (fun _ _ _ h => by first | exact h | cases h.1) (by rfl) (by kernel_rfl) (Or.inl ⟨by rfl, ?_⟩) (by first | exact HS.out | exact hS | exact hdx | exact ⟨hdx, hkx⟩) ?_
        rotate_left
        · (intro w' hw'; (try dsimp only at hw'); skip; go_simp; first | done | with_reducible rfl)
        (try simp only [List.getElem_toArray, List.getElem_cons_zero, List.getElem_cons_succ, Act.put, List.setIfInBounds_toArray, List.set_cons_zero, List.set_cons_succ])
        refine wpAnyD_take (i := 1) (v := ?_) rfl (by kernel_rfl) (by kernel_rfl) (by kernel_rfl) (by kernel_rfl) (fun _ _ _ h => by first | exact h | cases h.1) (by rfl) (by kernel_rfl) (Or.inl ⟨by rfl, ?_⟩) (by first | exact HS.out | exact hS | exact hdx | exact ⟨hdx, hkx⟩) ?_
        rotate_left
        · (intro w' hw'; (try dsimp only at hw'); (have z0 := (boxed (box_below hd0 hw' hl0)) 0 _ rfl; have z1 := (boxed (box_below hd0 hw' hl0)) 1 _ rfl; have z2 := (boxed (box_below hd0 hw' hl0)) 2 _ rfl; have z3 := (boxed (box_below hd0 hw' hl0)) 3 _ rfl; have z4 := (boxed (box_below hd0 hw' hl0)) 4 _ rfl); go_simp; first | done | with_reducible rfl)
        (try simp only [List.getElem_toArray, List.getElem_cons_zero, List.getElem_cons_succ, Act.put, List.setIfInBounds_toArray, List.set_cons_zero, List.set_cons_succ])
        refine wpAnyD_take (i := 2) (v := ?_) rfl (by kernel_rfl) (by kernel_rfl) (by kernel_rfl) (by kernel_rfl) (fun _ _ _ h => by first | exact h | cases h.1) (by rfl) (by kernel_rfl) (Or.inl ⟨by rfl, ?_⟩) (by first | exact HS.out | exact hS | exact hdx | exact ⟨hdx, hkx⟩) ?_
        rotate_left
        · (intro w' hw'; (try dsimp only at hw'); skip; go_simp; first | done | with_reducible rfl)
        (try simp only [List.getElem_toArray, List.getElem_cons_zero, List.getElem_cons_succ, Act.put, List.setIfInBounds_toArray, List.set_cons_zero, List.set_cons_succ])
        refine wpAnyD_take (i := 3) (v := ?_) rfl (by kernel_rfl) (by kernel_rfl) (by kernel_rfl) (by kernel_rfl) (fun _ _ _ h => by first | exact h | cases h.1) (by rfl) (by kernel_rfl) (Or.inl ⟨by rfl, ?_⟩) (by first | exact HS.out | exact hS | exact hdx | exact ⟨hdx, hkx⟩) ?_
        rotate_left
        · (intro w' hw'; (try dsimp only at hw'); (have z0 := belowCell hw' x0 hlb; have z1 := belowCell hw' x1 hlb; have z2 := belowCell hw' x2 hlb; have z3 := belowCell hw' x3 hlb; have z4 := belowCell hw' x4 hlb); go_simp; first | done | with_reducible rfl)
        (try simp only [List.getElem_toArray, List.getElem_cons_zero, List.getElem_cons_succ, Act.put, List.setIfInBounds_toArray, List.set_cons_zero, List.set_cons_succ])
        refine wpAnyD_take (i := 5) (v := ?_) rfl (by kernel_rfl) (by kernel_rfl) (by kernel_rfl) (by kernel_rfl) (fun _ _ _ h => by first | exact h | cases h.1) (by rfl) (by kernel_rfl) (Or.inl ⟨by rfl, ?_⟩) (by first | exact HS.out | exact hS | exact hdx | exact ⟨hdx, hkx⟩) ?_
        rotate_left
        · (intro w' hw'; (try dsimp only at hw'); skip; go_simp; first | done | with_reducible rfl)
        (try simp only [List.getElem_toArray, List.getElem_cons_zero, List.getElem_cons_succ, Act.put, List.setIfInBounds_toArray, List.set_cons_zero, List.set_cons_succ])
        refine wpAnyD_take (i := 6) (v := ?_) rfl (by kernel_rfl) (by kernel_rfl) (by kernel_rfl) (by kernel_rfl) (fun _ _ _ h => by first | exact h | cases h.1) (by rfl) (by kernel_rfl) (Or.inl ⟨by rfl, ?_⟩) (by first | exact HS.out | exact hS | exact hdx | exact ⟨hdx, hkx⟩) ?_
        rotate_left
        · (intro w' hw'; (try dsimp only at hw'); (have z0 := (boxed (box_below hk0 hw' hlk)) 0 _ rfl; have z1 := (boxed (box_below hk0 hw' hlk)) 1 _ rfl); go_simp; first | done | with_reducible rfl)
        (try simp only [List.getElem_toArray, List.getElem_cons_zero, List.getElem_cons_succ, Act.put, List.setIfInBounds_toArray, List.set_cons_zero, List.set_cons_succ])
        refine wpAnyD_take (i := 7) (v := ?_) rfl (by kernel_rfl) (by kernel_rfl) (by kernel_rfl) (by kernel_rfl) (fun _ _ _ h => by first | exact h | cases h.1) (by rfl) (by kernel_rfl) (Or.inl ⟨by rfl, ?_⟩) (by first | exact HS.out | exact hS | exact hdx | exact ⟨hdx, hkx⟩) ?_
        rotate_left
        · (intro w' hw'; (try dsimp only at hw'); skip; go_simp; first | done | with_reducible rfl)
        (try simp only [List.getElem_toArray, List.getElem_cons_zero, List.getElem_cons_succ, Act.put, List.setIfInBounds_toArray, List.set_cons_zero, List.set_cons_succ])
        refine wpAnyD_take (i := 8) (v := ?_) rfl (by kernel_rfl) (by kernel_rfl) (by kernel_rfl) (by kernel_rfl) (fun _ _ _ h => by first | exact h | cases h.1) (by rfl) (by kernel_rfl) (Or.inl ⟨by rfl, ?_⟩) (by first | exact HS.out | exact hS | exact hdx | exact ⟨hdx, hkx⟩) ?_
        rotate_left
        · (intro w' hw'; (try dsimp only at hw'); (have z0 := (boxed (box_below hd0 hw' hl0)) 0 _ rfl; have z1 := (boxed (box_below hd0 hw' hl0)) 1 _ rfl; have z2 := (boxed (box_below hd0 hw' hl0)) 2 _ rfl; have z3 := (boxed (box_below hd0 hw' hl0)) 3 _ rfl; have z4 := (boxed (box_below hd0 hw' hl0)) 4 _ rfl); go_simp; first | done | with_reducible rfl)
        (try simp only [List.getElem_toArray, List.getElem_cons_zero, List.getElem_cons_succ, Act.put, List.setIfInBounds_toArray, List.set_cons_zero, List.set_cons_succ])
        refine wpAnyD_take (i := 9) (v := ?_) rfl (by kernel_rfl) (by kernel_rfl) (by kernel_rfl) (by kernel_rfl) (fun _ _ _ h => by first | exact h | cases h.1) (by rfl) (by kernel_rfl) (Or.inl ⟨by rfl, ?_⟩) (by first | exact HS.out | exact hS | exact hdx | exact ⟨hdx, hkx⟩) ?_
        rotate_left
        · (intro w' hw'; (try dsimp only at hw'); skip; go_simp; first | done | with_reducible rfl)
        (try simp only [List.getElem_toArray, List.getElem_cons_zero, List.getElem_cons_succ, Act.put, List.setIfInBounds_toArray, List.set_cons_zero, List.set_cons_succ])
        refine wpAnyD_take (i := 10) (v := ?_) rfl (by kernel_rfl) (by kernel_rfl) (by kernel_rfl) (by kernel_rfl) (fun _ _ _ h => by first | exact h | cases h.1) (by rfl) (by kernel_rfl) (Or.inl ⟨by rfl, ?_⟩) (by first | exact HS.out | exact hS | exact hdx | exact ⟨hdx, hkx⟩) ?_
        rotate_left
        · (intro w' hw'; (try dsimp only at hw'); skip; go_simp; first | done | with_reducible rfl)
        (try simp only [List.getElem_toArray, List.getElem_cons_zero, List.getElem_cons_succ, Act.put, List.setIfInBounds_toArray, List.set_cons_zero, List.set_cons_succ])
        refine wpAnyD_take (i := 11) (v := ?_) rfl (by kernel_rfl) (by kernel_rfl) (by kernel_rfl) (by kernel_rfl) (fun _ _ _ h => by first | exact h | cases h.1) (by rfl) (by kernel_rfl) (Or.inl ⟨by rfl, ?_⟩) (by first | exact HS.out | exact hS | exact hdx | exact ⟨hdx, hkx⟩) ?_
        rotate_left
        · (intro w' hw'; (try dsimp only at hw'); (have z0 := belowCell hw' y0 hlb; have z1 := belowCell hw' y1 hlb; have z2 := belowCell hw' y2 hlb; have z3 := belowCell hw' y3 hlb; have z4 := belowCell hw' y4 hlb); go_simp; first | done | with_reducible rfl)
        (try simp only [List.getElem_toArray, List.getElem_cons_zero, List.getElem_cons_succ, Act.put, List.setIfInBounds_toArray, List.set_cons_zero, List.set_cons_succ])
        refine wpAnyD_all (rs := [4, 14]) (by kernel_rfl) (by simp) (AllD.cons rfl (by rfl) (fun K hK => ?_) (AllD.cons rfl (by rfl) (fun K hK => ?_) AllD.nil))
        · go_simp
          refine Calls.mono (sxclone_c (v.kid 1) _ _ (HKA.out.later HX.out).rd (Nat.le_trans (kid_wt' v 1) (by omega))) ?_
          rintro e wx ⟨cA1, cn1, cc1, cA2, cn2, cc2, cA3, cn3, cc3, rfl, hq, hB⟩
          (try have HL2 := Lib.hid (slKeepS HL2.out hB (by intro b hb; first | omega | (simp only [false_or] at hb; omega))))
          (try have HS := Lib.hid (HS.out.trans (hB.mono (by omega))))
          (try have HK := Lib.hid (slKeepS HK.out hB (by intro b hb; first | omega | (have := hS b hb; omega))))
          (try have pa := pa.keepS hB (by intro b hb; first | omega | (simp only [false_or] at hb; omega)))
          (try have pb := pb.keepS hB (by intro b hb; first | omega | (simp only [false_or] at hb; omega)))
          (try have pc := pc.keepS hB (by intro b hb; first | omega | (simp only [false_or] at hb; omega)))
          (try have pd := pd.keepS hB (by intro b hb; first | omega | (simp only [false_or] at hb; omega)))
          (try have pe := pe.keepS hB (by intro b hb; first | omega | (simp only [false_or] at hb; omega)))
          (try have HE := Lib.hid (slKeepS HE.out hB (by intro b hb; first | omega | (simp only [false_or] at hb; omega))))
          (try have HL := Lib.hid (slKeepS HL.out hB (by intro b hb; first | omega | (simp only [false_or] at hb; omega))))
          (try have hdx := box_below hdx hB (Array.getElem?_eq_some_iff.1 hdx).1)
          (try have hrx := box_below hrx hB (Array.getElem?_eq_some_iff.1 hrx).1)
          (try have hkx := box_below hkx hB (Array.getElem?_eq_some_iff.1 hkx).1)
          (try have hix := box_below hix hB (Array.getElem?_eq_some_iff.1 hix).1)
          (try have hjx := box_below hjx hB (Array.getElem?_eq_some_iff.1 hjx).1)
          have HX := Lib.hid (below_then HX.out hB)
          have hz := hB.size
          have pb := hq
          clear hq hB
          (try simp only [treeV])
          refine hK.out _ _ (fun _ => HS.out) ?_
          clear hK K
          (try simp only [List.getElem_toArray, List.getElem_cons_zero, List.getElem_cons_succ, Act.put, List.setIfInBounds_toArray, List.set_cons_zero, List.set_cons_succ])
          refine wpAnyD_all (rs := [12, 14]) (by kernel_rfl) (by simp) (AllD.cons rfl (by rfl) (fun K hK => ?_) (AllD.cons rfl (by rfl) (fun K hK => ?_) AllD.nil))
          · go_simp
            refine Calls.mono (bclone_c (v.kid 3).data _ _ _ _ (sl_later HKD.out HX.out) (by omega)) ?_
            rintro e wx ⟨vD, rfl, hq, hB⟩
            obtain ⟨eA, ec, rfl, hqs⟩ := hq.sl_all
            have HE0 := Lib.hid hq.sl_in
            (try have HL2 := Lib.hid (slKeepS HL2.out hB (by intro b hb; first | omega | (simp only [false_or] at hb; omega))))
            (try have HS := Lib.hid (HS.out.trans (hB.mono (by omega))))
            (try have HK := Lib.hid (slKeepS HK.out hB (by intro b hb; first | omega | (have := hS b hb; omega))))
            (try have pa := pa.keepS hB (by intro b hb; first | omega | (simp only [false_or] at hb; omega)))
            (try have pb := pb.keepS hB (by intro b hb; first | omega | (simp only [false_or] at hb; omega)))
            (try have pc := pc.keepS hB (by intro b hb; first | omega | (simp only [false_or] at hb; omega)))
            (try have pd := pd.keepS hB (by intro b hb; first | omega | (simp only [false_or] at hb; omega)))
            (try have pe := pe.keepS hB (by intro b hb; first | omega | (simp only [false_or] at hb; omega)))
            (try have HE := Lib.hid (slKeepS HE.out hB (by intro b hb; first | omega | (simp only [false_or] at hb; omega))))
            (try have HL := Lib.hid (slKeepS HL.out hB (by intro b hb; first | omega | (simp only [false_or] at hb; omega))))
            (try have hdx := box_below hdx hB (Array.getElem?_eq_some_iff.1 hdx).1)
            (try have hrx := box_below hrx hB (Array.getElem?_eq_some_iff.1 hrx).1)
            (try have hkx := box_below hkx hB (Array.getElem?_eq_some_iff.1 hkx).1)
            (try have hix := box_below hix hB (Array.getElem?_eq_some_iff.1 hix).1)
            (try have hjx := box_below hjx hB (Array.getElem?_eq_some_iff.1 hjx).1)
            have HX := Lib.hid (below_then HX.out hB)
            have hz := hB.size
            have HE := HE0
            clear hq hqs hB HE0
            refine hK.out _ _ (fun _ => HS.out) ?_
            clear hK K
            (try simp only [List.getElem_toArray, List.getElem_cons_zero, List.getElem_cons_succ, Act.put, List.setIfInBounds_toArray, List.set_cons_zero, List.set_cons_succ])
            refine wpAnyD_take (i := 13) (v := ?_) rfl (by kernel_rfl) (by kernel_rfl) (by kernel_rfl) (by kernel_rfl) (fun _ _ _ h => by first | exact h | cases h.1) (by rfl) (by kernel_rfl) (Or.inl ⟨by rfl, ?_⟩) (by first | exact HS.out | exact hS | exact hdx | exact ⟨hdx, hkx⟩) ?_
            rotate_left
            · (intro w' hw'; (try dsimp only at hw'); skip; go_simp; first | done | with_reducible rfl)
            (try simp only [List.getElem_toArray, List.getElem_cons_zero, List.getElem_cons_succ, Act.put, List.setIfInBounds_toArray, List.set_cons_zero, List.set_cons_succ])
            refine wpAnyD_all (rs := [14]) (by kernel_rfl) (by simp) (AllD.cons rfl (by rfl) (fun K hK => ?_) AllD.nil)
            go_simp
            have hB := Below.alloc (Below.refl wx.heap.size wx) (Nat.le_refl _) (.cells #[.bool false, .bool false, .slice none 0 0, .slice none 0 0, .slice none 0 0, .slice none 0 0, .slice none 0 0] 29)
            have hin := box_new wx #[.bool false, .bool false, .slice none 0 0, .slice none 0 0, .slice none 0 0, .slice none 0 0, .slice none 0 0] 29
            (try have HL2 := Lib.hid (slKeepS HL2.out hB (by intro b hb; first | omega | (simp only [false_or] at hb; omega))))
            (try have HS := Lib.hid (HS.out.trans (hB.mono (by omega))))
            (try have HK := Lib.hid (slKeepS HK.out hB (by intro b hb; first | omega | (have := hS b hb; omega))))
            (try have pa := pa.keepS hB (by intro b hb; first | omega | (simp only [false_or] at hb; omega)))
            (try have pb := pb.keepS hB (by intro b hb; first | omega | (simp only [false_or] at hb; omega)))
            (try have pc := pc.keepS hB (by intro b hb; first | omega | (simp only [false_or] at hb; omega)))
            (try have pd := pd.keepS hB (by intro b hb; first | omega | (simp only [false_or] at hb; omega)))
            (try have pe := pe.keepS hB (by intro b hb; first | omega | (simp only [false_or] at hb; omega)))
            (try have HE := Lib.hid (slKeepS HE.out hB (by intro b hb; first | omega | (simp only [false_or] at hb; omega))))
            (try have HL := Lib.hid (slKeepS HL.out hB (by intro b hb; first | omega | (simp only [false_or] at hb; omega))))
            (try have hdx := box_below hdx hB (Array.getElem?_eq_some_iff.1 hdx).1)
            (try have hrx := box_below hrx hB (Array.getElem?_eq_some_iff.1 hrx).1)
            (try have hkx := box_below hkx hB (Array.getElem?_eq_some_iff.1 hkx).1)
            (try have hix := box_below hix hB (Array.getElem?_eq_some_iff.1 hix).1)
            (try have hjx := box_below hjx hB (Array.getElem?_eq_some_iff.1 hjx).1)
            have HX := Lib.hid (below_then HX.out hB)
            have hz := hB.size
            have hix := hin
            have hgl := (Array.getElem?_eq_some_iff.1 hix).1
            clear hB hin
            generalize hggi : wx.heap.size = gi at *
            generalize wx.alloc (.cells #[.bool false, .bool false, .slice none 0 0, .slice none 0 0, .slice none 0 0, .slice none 0 0, .slice none 0 0] 29) = wx at *
            refine hK.out _ _ (fun _ => HS.out) ?_
            clear hK K
            (try simp only [List.getElem_toArray, List.getElem_cons_zero, List.getElem_cons_succ, Act.put, List.setIfInBounds_toArray, List.set_cons_zero, List.set_cons_succ])
            refine wpAnyD_all (rs := [15]) (by kernel_rfl) (by simp) (AllD.cons rfl (by rfl) (fun K hK => ?_) AllD.nil)
            have hr0 := (boxed hix) 0 _ rfl; have hr1 := (boxed hix) 1 _ rfl; have hr2 := (boxed hix) 2 _ rfl; have hr3 := (boxed hix) 3 _ rfl; have hr4 := (boxed hix) 4 _ rfl; have hr5 := (boxed hix) 5 _ rfl; have hr6 := (boxed hix) 6 _ rfl
            have hf0 := boxed_frozen hix 0; have hf1 := boxed_frozen hix 1; have hf2 := boxed_frozen hix 2; have hf3 := boxed_frozen hix 3; have hf4 := boxed_frozen hix 4; have hf5 := boxed_frozen hix 5; have hf6 := boxed_frozen hix 6
            go_simp
            have hgr := put7_grown wx gi 0 (.bool (v.kid 1).list) (.bool (v.kid 1).hinted) (.slice cA1 cn1 cc1) (.slice cA2 cn2 cc2) (.slice cA3 cn3 cc3) (.slice kA kn kc) (.slice eA (v.kid 3).data.length ec)
            have hnw := put7_box hix 0 (.bool (v.kid 1).list) (.bool (v.kid 1).hinted) (.slice cA1 cn1 cc1) (.slice cA2 cn2 cc2) (.slice cA3 cn3 cc3) (.slice kA kn kc) (.slice eA (v.kid 3).data.length ec)
            (try clear hr0 hf0); (try clear hr1 hf1); (try clear hr2 hf2); (try clear hr3 hf3); (try clear hr4 hf4); (try clear hr5 hf5); (try clear hr6 hf6)
            clear hix
            (try have HL2 := Lib.hid (slFarS HL2.out hgr (by intro b hb; first | omega | (simp only [false_or] at hb; omega))))
            (try have HK := Lib.hid (slFarS HK.out hgr (by intro b hb; first | omega | (have := hS b hb; omega))))
            (try have pa := pa.farS hgr (by intro b hb; first | omega | (simp only [false_or] at hb; omega)))
            (try have pb := pb.farS hgr (by intro b hb; first | omega | (simp only [false_or] at hb; omega)))
            (try have pc := pc.farS hgr (by intro b hb; first | omega | (simp only [false_or] at hb; omega)))
            (try have pd := pd.farS hgr (by intro b hb; first | omega | (simp only [false_or] at hb; omega)))
            (try have pe := pe.farS hgr (by intro b hb; first | omega | (simp only [false_or] at hb; omega)))
            (try have HE := Lib.hid (slFarS HE.out hgr (by intro b hb; first | omega | (simp only [false_or] at hb; omega))))
            (try have HL := Lib.hid (slFarS HL.out hgr (by intro b hb; first | omega | (simp only [false_or] at hb; omega))))
            (try have hdx := box_grown hdx hgr (by simp <;> omega))
            (try have hrx := box_grown hrx hgr (by simp <;> omega))
            (try have hkx := box_grown hkx hgr (by simp <;> omega))
            (try have hjx := box_grown hjx hgr (by simp <;> omega))
            (try have hix := box_grown hix hgr (by simp <;> omega))
            have HX := Lib.hid (HX.out.grown hgr (by omega) fun k hk => by injection hk; omega)
            have hz := hgr.size
            have hix := hnw
            clear hgr hnw
            refine hK.out _ _ (fun h => absurd h (by decide)) ?_
            clear hK K
            (try simp only [List.getElem_toArray, List.getElem_cons_zero, List.getElem_cons_succ, Act.put, List.setIfInBounds_toArray, List.set_cons_zero, List.set_cons_succ])
            generalize hpq : put7 wx gi 0 (.bool (v.kid 1).list) (.bool (v.kid 1).hinted) (.slice cA1 cn1 cc1) (.slice cA2 cn2 cc2) (.slice cA3 cn3 cc3) (.slice kA kn kc) (.slice eA (v.kid 3).data.length ec) = w8 at *
            unfold put7 at hpq
            rw [hpq]
            clear hpq
            refine wpAnyD_done (by kernel_rfl) ?_ _
            go_wp2_with fail
            go_meet
            exact ⟨gi, _, _, _, _, _, _, _, _, _, _, _, _, _, _, _, rfl, ⟨pb.more (by intro b hb; omega), Rep.sl_more HK.out (by intro b hb; omega), Rep.sl_more HE.out (by intro b hb; omega)⟩, hix, hdx, hrx, HX.out, by omega⟩
          · go_simp
            have hB := Below.alloc (Below.refl wx.heap.size wx) (Nat.le_refl _) (.cells #[.bool false, .bool false, .slice none 0 0, .slice none 0 0, .slice none 0 0, .slice none 0 0, .slice none 0 0] 29)
            have hin := box_new wx #[.bool false, .bool false, .slice none 0 0, .slice none 0 0, .slice none 0 0, .slice none 0 0, .slice none 0 0] 29
            (try have HL2 := Lib.hid (slKeepS HL2.out hB (by intro b hb; first | omega | (simp only [false_or] at hb; omega))))
            (try have HS := Lib.hid (HS.out.trans (hB.mono (by omega))))
            (try have HK := Lib.hid (slKeepS HK.out hB (by intro b hb; first | omega | (have := hS b hb; omega))))
            (try have pa := pa.keepS hB (by intro b hb; first | omega | (simp only [false_or] at hb; omega)))
            (try have pb := pb.keepS hB (by intro b hb; first | omega | (simp only [false_or] at hb; omega)))
            (try have pc := pc.keepS hB (by intro b hb; first | omega | (simp only [false_or] at hb; omega)))
            (try have pd := pd.keepS hB (by intro b hb; first | omega | (simp only [false_or] at hb; omega)))
            (try have pe := pe.keepS hB (by intro b hb; first | omega | (simp only [false_or] at hb; omega)))
            (try have HE := Lib.hid (slKeepS HE.out hB (by intro b hb; first | omega | (simp only [false_or] at hb; omega))))
            (try have HL := Lib.hid (slKeepS HL.out hB (by intro b hb; first | omega | (simp only [false_or] at hb; omega))))
            (try have hdx := box_below hdx hB (Array.getElem?_eq_some_iff.1 hdx).1)
            (try have hrx := box_below hrx hB (Array.getElem?_eq_some_iff.1 hrx).1)
            (try have hkx := box_below hkx hB (Array.getElem?_eq_some_iff.1 hkx).1)
            (try have hix := box_below hix hB (Array.getElem?_eq_some_iff.1 hix).1)
            (try have hjx := box_below hjx hB (Array.getElem?_eq_some_iff.1 hjx).1)
            have HX := Lib.hid (below_then HX.out hB)
            have hz := hB.size
            have hix := hin
            have hgl := (Array.getElem?_eq_some_iff.1 hix).1
            clear hB hin
            generalize hggi : wx.heap.size = gi at *
            generalize wx.alloc (.cells #[.bool false, .bool false, .slice none 0 0, .slice none 0 0, .slice none 0 0, .slice none 0 0, .slice none 0 0] 29) = wx at *
            refine hK.out _ _ (fun _ => HS.out) ?_
            clear hK K
            (try simp only [List.getElem_toArray, List.getElem_cons_zero, List.getElem_cons_succ, Act.put, List.setIfInBounds_toArray, List.set_cons_zero, List.set_cons_succ])
            refine wpAnyD_all (rs := [12]) (by kernel_rfl) (by simp) (AllD.cons rfl (by rfl) (fun K hK => ?_) AllD.nil)
            go_simp
            refine Calls.mono (bclone_c (v.kid 3).data _ _ _ _ (sl_later HKD.out HX.out) (by omega)) ?_
            rintro e wx ⟨vD, rfl, hq, hB⟩
            obtain ⟨eA, ec, rfl, hqs⟩ := hq.sl_all
            have HE0 := Lib.hid hq.sl_in
            (try have HL2 := Lib.hid (slKeepS HL2.out hB (by intro b hb; first | omega | (simp only [false_or] at hb; omega))))
            (try have HS := Lib.hid (HS.out.trans (hB.mono (by omega))))
            (try have HK := Lib.hid (slKeepS HK.out hB (by intro b hb; first | omega | (have := hS b hb; omega))))
            (try have pa := pa.keepS hB (by intro b hb; first | omega | (simp only [false_or] at hb; omega)))
            (try have pb := pb.keepS hB (by intro b hb; first | omega | (simp only [false_or] at hb; omega)))
            (try have pc := pc.keepS hB (by intro b hb; first | omega | (simp only [false_or] at hb; omega)))
            (try have pd := pd.keepS hB (by intro b hb; first | omega | (simp only [false_or] at hb; omega)))
            (try have pe := pe.keepS hB (by intro b hb; first | omega | (simp only [false_or] at hb; omega)))
            (try have HE := Lib.hid (slKeepS HE.out hB (by intro b hb; first | omega | (simp only [false_or] at hb; omega))))
            (try have HL := Lib.hid (slKeepS HL.out hB (by intro b hb; first | omega | (simp only [false_or] at hb; omega))))
            (try have hdx := box_below hdx hB (Array.getElem?_eq_some_iff.1 hdx).1)
            (try have hrx := box_below hrx hB (Array.getElem?_eq_some_iff.1 hrx).1)
            (try have hkx := box_below hkx hB (Array.getElem?_eq_some_iff.1 hkx).1)
            (try have hix := box_below hix hB (Array.getElem?_eq_some_iff.1 hix).1)
            (try have hjx := box_below hjx hB (Array.getElem?_eq_some_iff.1 hjx).1)
            have HX := Lib.hid (below_then HX.out hB)
            have hz := hB.size
            have HE := HE0
            clear hq hqs hB HE0
            refine hK.out _ _ (fun _ => HS.out) ?_
            clear hK K
            (try simp only [List.getElem_toArray, List.getElem_cons_zero, List.getElem_cons_succ, Act.put, List.setIfInBounds_toArray, List.set_cons_zero, List.set_cons_succ])
            refine wpAnyD_take (i := 13) (v := ?_) rfl (by kernel_rfl) (by kernel_rfl) (by kernel_rfl) (by kernel_rfl) (fun _ _ _ h => by first | exact h | cases h.1) (by rfl) (by kernel_rfl) (Or.inl ⟨by rfl, ?_⟩) (by first | exact HS.out | exact hS | exact hdx | exact ⟨hdx, hkx⟩) ?_
            rotate_left
            · (intro w' hw'; (try dsimp only at hw'); skip; go_simp; first | done | with_reducible rfl)
            (try simp only [List.getElem_toArray, List.getElem_cons_zero, List.getElem_cons_succ, Act.put, List.setIfInBounds_toArray, List.set_cons_zero, List.set_cons_succ])
            refine wpAnyD_all (rs := [15]) (by kernel_rfl) (by simp) (AllD.cons rfl (by rfl) (fun K hK => ?_) AllD.nil)
            have hr0 := (boxed hix) 0 _ rfl; have hr1 := (boxed hix) 1 _ rfl; have hr2 := (boxed hix) 2 _ rfl; have hr3 := (boxed hix) 3 _ rfl; have hr4 := (boxed hix) 4 _ rfl; have hr5 := (boxed hix) 5 _ rfl; have hr6 := (boxed hix) 6 _ rfl
            have hf0 := boxed_frozen hix 0; have hf1 := boxed_frozen hix 1; have hf2 := boxed_frozen hix 2; have hf3 := boxed_frozen hix 3; have hf4 := boxed_frozen hix 4; have hf5 := boxed_frozen hix 5; have hf6 := boxed_frozen hix 6
            go_simp
            have hgr := put7_grown wx gi 0 (.bool (v.kid 1).list) (.bool (v.kid 1).hinted) (.slice cA1 cn1 cc1) (.slice cA2 cn2 cc2) (.slice cA3 cn3 cc3) (.slice kA kn kc) (.slice eA (v.kid 3).data.length ec)
            have hnw := put7_box hix 0 (.bool (v.kid 1).list) (.bool (v.kid 1).hinted) (.slice cA1 cn1 cc1) (.slice cA2 cn2 cc2) (.slice cA3 cn3 cc3) (.slice kA kn kc) (.slice eA (v.kid 3).data.length ec)
            (try clear hr0 hf0); (try clear hr1 hf1); (try clear hr2 hf2); (try clear hr3 hf3); (try clear hr4 hf4); (try clear hr5 hf5); (try clear hr6 hf6)
            clear hix
            (try have HL2 := Lib.hid (slFarS HL2.out hgr (by intro b hb; first | omega | (simp only [false_or] at hb; omega))))
            (try have HK := Lib.hid (slFarS HK.out hgr (by intro b hb; first | omega | (have := hS b hb; omega))))
            (try have pa := pa.farS hgr (by intro b hb; first | omega | (simp only [false_or] at hb; omega)))
            (try have pb := pb.farS hgr (by intro b hb; first | omega | (simp only [false_or] at hb; omega)))
            (try have pc := pc.farS hgr (by intro b hb; first | omega | (simp only [false_or] at hb; omega)))
            (try have pd := pd.farS hgr (by intro b hb; first | omega | (simp only [false_or] at hb; omega)))
            (try have pe := pe.farS hgr (by intro b hb; first | omega | (simp only [false_or] at hb; omega)))
            (try have HE := Lib.hid (slFarS HE.out hgr (by intro b hb; first | omega | (simp only [false_or] at hb; omega))))
            (try have HL := Lib.hid (slFarS HL.out hgr (by intro b hb; first | omega | (simp only [false_or] at hb; omega))))
            (try have hdx := box_grown hdx hgr (by simp <;> omega))
            (try have hrx := box_grown hrx hgr (by simp <;> omega))
            (try have hkx := box_grown hkx hgr (by simp <;> omega))
            (try have hjx := box_grown hjx hgr (by simp <;> omega))
            (try have hix := box_grown hix hgr (by simp <;> omega))
            have HX := Lib.hid (HX.out.grown hgr (by omega) fun k hk => by injection hk; omega)
            have hz := hgr.size
            have hix := hnw
            clear hgr hnw
            refine hK.out _ _ (fun h => absurd h (by decide)) ?_
            clear hK K
            (try simp only [List.getElem_toArray, List.getElem_cons_zero, List.getElem_cons_succ, Act.put, List.setIfInBounds_toArray, List.set_cons_zero, List.set_cons_succ])
            generalize hpq : put7 wx gi 0 (.bool (v.kid 1).list) (.bool (v.kid 1).hinted) (.slice cA1 cn1 cc1) (.slice cA2 cn2 cc2) (.slice cA3 cn3 cc3) (.slice kA kn kc) (.slice eA (v.kid 3).data.length ec) = w8 at *
            unfold put7 at hpq
            rw [hpq]
            clear hpq
            refine wpAnyD_done (by kernel_rfl) ?_ _
            go_wp2_with fail
            go_meet
            exact ⟨gi, _, _, _, _, _, _, _, _, _, _, _, _, _, _, _, rfl, ⟨pb.more (by intro b hb; omega), Rep.sl_more HK.out (by intro b hb; omega), Rep.sl_more HE.out (by intro b hb; omega)⟩, hix, hdx, hrx, HX.out, by omega⟩
        · go_simp
          have hB := Below.alloc (Below.refl wx.heap.size wx) (Nat.le_refl _) (.cells #[.bool false, .bool false, .slice none 0 0, .slice none 0 0, .slice none 0 0, .slice none 0 0, .slice none 0 0] 29)
          have hin := box_new wx #[.bool false, .bool false, .slice none 0 0, .slice none 0 0, .slice none 0 0, .slice none 0 0, .slice none 0 0] 29
          (try have HL2 := Lib.hid (slKeepS HL2.out hB (by intro b hb; first | omega | (simp only [false_or] at hb; omega))))
          (try have HS := Lib.hid (HS.out.trans (hB.mono (by omega))))
          (try have HK := Lib.hid (slKeepS HK.out hB (by intro b hb; first | omega | (have := hS b hb; omega))))
          (try have pa := pa.keepS hB (by intro b hb; first | omega | (simp only [false_or] at hb; omega)))
          (try have pb := pb.keepS hB (by intro b hb; first | omega | (simp only [false_or] at hb; omega)))
          (try have pc := pc.keepS hB (by intro b hb; first | omega | (simp only [false_or] at hb; omega)))
          (try have pd := pd.keepS hB (by intro b hb; first | omega | (simp only [false_or] at hb; omega)))
          (try have pe := pe.keepS hB (by intro b hb; first | omega | (simp only [false_or] at hb; omega)))
          (try have HE := Lib.hid (slKeepS HE.out hB (by intro b hb; first | omega | (simp only [false_or] at hb; omega))))
          (try have HL := Lib.hid (slKeepS HL.out hB (by intro b hb; first | omega | (simp only [false_or] at hb; omega))))
          (try have hdx := box_below hdx hB (Array.getElem?_eq_some_iff.1 hdx).1)
          (try have hrx := box_below hrx hB (Array.getElem?_eq_some_iff.1 hrx).1)
          (try have hkx := box_below hkx hB (Array.getElem?_eq_some_iff.1 hkx).1)
          (try have hix := box_below hix hB (Array.getElem?_eq_some_iff.1 hix).1)
          (try have hjx := box_below hjx hB (Array.getElem?_eq_some_iff.1 hjx).1)
          have HX := Lib.hid (below_then HX.out hB)
          have hz := hB.size
          have hix := hin
          have hgl := (Array.getElem?_eq_some_iff.1 hix).1
          clear hB hin
          generalize hggi : wx.heap.size = gi at *
          generalize wx.alloc (.cells #[.bool false, .bool false, .slice none 0 0, .slice none 0 0, .slice none 0 0, .slice none 0 0, .slice none 0 0] 29) = wx at *
          refine hK.out _ _ (fun _ => HS.out) ?_
          clear hK K
          (try simp only [List.getElem_toArray, List.getElem_cons_zero, List.getElem_cons_succ, Act.put, List.setIfInBounds_toArray, List.set_cons_zero, List.set_cons_succ])
          refine wpAnyD_all (rs := [4]) (by kernel_rfl) (by simp) (AllD.cons rfl (by rfl) (fun K hK => ?_) AllD.nil)
          go_simp
          refine Calls.mono (sxclone_c (v.kid 1) _ _ (HKA.out.later HX.out).rd (Nat.le_trans (kid_wt' v 1) (by omega))) ?_
          rintro e wx ⟨cA1, cn1, cc1, cA2, cn2, cc2, cA3, cn3, cc3, rfl, hq, hB⟩
          (try have HL2 := Lib.hid (slKeepS HL2.out hB (by intro b hb; first | omega | (simp only [false_or] at hb; omega))))
          (try have HS := Lib.hid (HS.out.trans (hB.mono (by omega))))
          (try have HK := Lib.hid (slKeepS HK.out hB (by intro b hb; first | omega | (have := hS b hb; omega))))
          (try have pa := pa.keepS hB (by intro b hb; first | omega | (simp only [false_or] at hb; omega)))
          (try have pb := pb.keepS hB (by intro b hb; first | omega | (simp only [false_or] at hb; omega)))
          (try have pc := pc.keepS hB (by intro b hb; first | omega | (simp only [false_or] at hb; omega)))
          (try have pd := pd.keepS hB (by intro b hb; first | omega | (simp only [false_or] at hb; omega)))
          (try have pe := pe.keepS hB (by intro b hb; first | omega | (simp only [false_or] at hb; omega)))
          (try have HE := Lib.hid (slKeepS HE.out hB (by intro b hb; first | omega | (simp only [false_or] at hb; omega))))
          (try have HL := Lib.hid (slKeepS HL.out hB (by intro b hb; first | omega | (simp only [false_or] at hb; omega))))
          (try have hdx := box_below hdx hB (Array.getElem?_eq_some_iff.1 hdx).1)
          (try have hrx := box_below hrx hB (Array.getElem?_eq_some_iff.1 hrx).1)
          (try have hkx := box_below hkx hB (Array.getElem?_eq_some_iff.1 hkx).1)
          (try have hix := box_below hix hB (Array.getElem?_eq_some_iff.1 hix).1)
          (try have hjx := box_below hjx hB (Array.getElem?_eq_some_iff.1 hjx).1)
          have HX := Lib.hid (below_then HX.out hB)
          have hz := hB.size
          have pb := hq
          clear hq hB
          (try simp only [treeV])
          refine hK.out _ _ (fun _ => HS.out) ?_
          clear hK K
          (try simp only [List.getElem_toArray, List.getElem_cons_zero, List.getElem_cons_succ, Act.put, List.setIfInBounds_toArray, List.set_cons_zero, List.set_cons_succ])
          refine wpAnyD_all (rs := [12]) (by kernel_rfl) (by simp) (AllD.cons rfl (by rfl) (fun K hK => ?_) AllD.nil)
          go_simp
          refine Calls.mono (bclone_c (v.kid 3).data _ _ _ _ (sl_later HKD.out HX.out) (by omega)) ?_
          rintro e wx ⟨vD, rfl, hq, hB⟩
          obtain ⟨eA, ec, rfl, hqs⟩ := hq.sl_all
          have HE0 := Lib.hid hq.sl_in
          (try have HL2 := Lib.hid (slKeepS HL2.out hB (by intro b hb; first | omega | (simp only [false_or] at hb; omega))))
          (try have HS := Lib.hid (HS.out.trans (hB.mono (by omega))))
          (try have HK := Lib.hid (slKeepS HK.out hB (by intro b hb; first | omega | (have := hS b hb; omega))))
          (try have pa := pa.keepS hB (by intro b hb; first | omega | (simp only [false_or] at hb; omega)))
          (try have pb := pb.keepS hB (by intro b hb; first | omega | (simp only [false_or] at hb; omega)))
          (try have pc := pc.keepS hB (by intro b hb; first | omega | (simp only [false_or] at hb; omega)))
          (try have pd := pd.keepS hB (by intro b hb; first | omega | (simp only [false_or] at hb; omega)))
          (try have pe := pe.keepS hB (by intro b hb; first | omega | (simp only [false_or] at hb; omega)))
          (try have HE := Lib.hid (slKeepS HE.out hB (by intro b hb; first | omega | (simp only [false_or] at hb; omega))))
          (try have HL := Lib.hid (slKeepS HL.out hB (by intro b hb; first | omega | (simp only [false_or] at hb; omega))))
          (try have hdx := box_below hdx hB (Array.getElem?_eq_some_iff.1 hdx).1)
          (try have hrx := box_below hrx hB (Array.getElem?_eq_some_iff.1 hrx).1)
          (try have hkx := box_below hkx hB (Array.getElem?_eq_some_iff.1 hkx).1)
          (try have hix := box_below hix hB (Array.getElem?_eq_some_iff.1 hix).1)
          (try have hjx := box_below hjx hB (Array.getElem?_eq_some_iff.1 hjx).1)
          have HX := Lib.hid (below_then HX.out hB)
          have hz := hB.size
          have HE := HE0
          clear hq hqs hB HE0
          refine hK.out _ _ (fun _ => HS.out) ?_
          clear hK K
          (try simp only [List.getElem_toArray, List.getElem_cons_zero, List.getElem_cons_succ, Act.put, List.setIfInBounds_toArray, List.set_cons_zero, List.set_cons_succ])
          refine wpAnyD_take (i := 13) (v := ?_) rfl (by kernel_rfl) (by kernel_rfl) (by kernel_rfl) (by kernel_rfl) (fun _ _ _ h => by first | exact h | cases h.1) (by rfl) (by kernel_rfl) (Or.inl ⟨by rfl, ?_⟩) (by first | exact HS.out | exact hS | exact hdx | exact ⟨hdx, hkx⟩) ?_
          rotate_left
          · (intro w' hw'; (try dsimp only at hw'); skip; go_simp; first | done | with_reducible rfl)
          (try simp only [List.getElem_toArray, List.getElem_cons_zero, List.getElem_cons_succ, Act.put, List.setIfInBounds_toArray, List.set_cons_zero, List.set_cons_succ])
          refine wpAnyD_all (rs := [15]) (by kernel_rfl) (by simp) (AllD.cons rfl (by rfl) (fun K hK => ?_) AllD.nil)
          have hr0 := (boxed hix) 0 _ rfl; have hr1 := (boxed hix) 1 _ rfl; have hr2 := (boxed hix) 2 _ rfl; have hr3 := (boxed hix) 3 _ rfl; have hr4 := (boxed hix) 4 _ rfl; have hr5 := (boxed hix) 5 _ rfl; have hr6 := (boxed hix) 6 _ rfl
          have hf0 := boxed_frozen hix 0; have hf1 := boxed_frozen hix 1; have hf2 := boxed_frozen hix 2; have hf3 := boxed_frozen hix 3; have hf4 := boxed_frozen hix 4; have hf5 := boxed_frozen hix 5; have hf6 := boxed_frozen hix 6
          go_simp
          have hgr := put7_grown wx gi 0 (.bool (v.kid 1).list) (.bool (v.kid 1).hinted) (.slice cA1 cn1 cc1) (.slice cA2 cn2 cc2) (.slice cA3 cn3 cc3) (.slice kA kn kc) (.slice eA (v.kid 3).data.length ec)
          have hnw := put7_box hix 0 (.bool (v.kid 1).list) (.bool (v.kid 1).hinted) (.slice cA1 cn1 cc1) (.slice cA2 cn2 cc2) (.slice cA3 cn3 cc3) (.slice kA kn kc) (.slice eA (v.kid 3).data.length ec)
          (try clear hr0 hf0); (try clear hr1 hf1); (try clear hr2 hf2); (try clear hr3 hf3); (try clear hr4 hf4); (try clear hr5 hf5); (try clear hr6 hf6)
          clear hix
          (try have HL2 := Lib.hid (slFarS HL2.out hgr (by intro b hb; first | omega | (simp only [false_or] at hb; omega))))
          (try have HK := Lib.hid (slFarS HK.out hgr (by intro b hb; first | omega | (have := hS b hb; omega))))
          (try have pa := pa.farS hgr (by intro b hb; first | omega | (simp only [false_or] at hb; omega)))
          (try have pb := pb.farS hgr (by intro b hb; first | omega | (simp only [false_or] at hb; omega)))
          (try have pc := pc.farS hgr (by intro b hb; first | omega | (simp only [false_or] at hb; omega)))
          (try have pd := pd.farS hgr (by intro b hb; first | omega | (simp only [false_or] at hb; omega)))
          (try have pe := pe.farS hgr (by intro b hb; first | omega | (simp only [false_or] at hb; omega)))
          (try have HE := Lib.hid (slFarS HE.out hgr (by intro b hb; first | omega | (simp only [false_or] at hb; omega))))
          (try have HL := Lib.hid (slFarS HL.out hgr (by intro b hb; first | omega | (simp only [false_or] at hb; omega))))
          (try have hdx := box_grown hdx hgr (by simp <;> omega))
          (try have hrx := box_grown hrx hgr (by simp <;> omega))
          (try have hkx := box_grown hkx hgr (by simp <;> omega))
          (try have hjx := box_grown hjx hgr (by simp <;> omega))
          (try have hix := box_grown hix hgr (by simp <;> omega))
          have HX := Lib.hid (HX.out.grown hgr (by omega) fun k hk => by injection hk; omega)
          have hz := hgr.size
          have hix := hnw
          clear hgr hnw
          refine hK.out _ _ (fun h => absurd h (by decide)) ?_
          clear hK K
          (try simp only [List.getElem_toArray, List.getElem_cons_zero, List.getElem_cons_succ, Act.put, List.setIfInBounds_toArray, List.set_cons_zero, List.set_cons_succ])
          generalize hpq : put7 wx gi 0 (.bool (v.kid 1).list) (.bool (v.kid 1).hinted) (.slice cA1 cn1 cc1) (.slice cA2 cn2 cc2) (.slice cA3 cn3 cc3) (.slice kA kn kc) (.slice eA (v.kid 3).data.length ec) = w8 at *
          unfold put7 at hpq
          rw [hpq]
          clear hpq
          refine wpAnyD_done (by kernel_rfl) ?_ _
          go_wp2_with fail
          go_meet
          exact ⟨gi, _, _, _, _, _, _, _, _, _, _, _, _, _, _, _, rfl, ⟨pb.more (by intro b hb; omega), Rep.sl_more HK.out (by intro b hb; omega), Rep.sl_more HE.out (by intro b hb; omega)⟩, hix, hdx, hrx, HX.out, by omega⟩
      case rest =>
        obtain ⟨gi, cA1, cn1, cc1, cA2, cn2, cc2, cA3, cn3, cc3, cAp, cnp, ccp, cAs, cns, ccs, rfl, HSP, hix, hdx, hrx, HX, hgi⟩ := hcut
        have hsp2 : cnp ≤ 2000000 := by
          have h1 := HSP.out.2.1.1
          have h2 := keyOr_len (v.kid 2)
          have h3 := kid_wt' v 2
          have h4 : (sCand v).2.1.length = (keyOr (getK (v.kid 2))).2.length := rfl
          omega
        have hsp3 : cns ≤ 2000000 := by
          have h1 := HSP.out.2.2.1
          have h2 := (v.kid 3).wt_data
          have h3 := kid_wt' v 3
          have h4 : (sCand v).2.2.length = (v.kid 3).data.length := rfl
          omega
        have q0 := (boxed hix) 0 _ rfl; have q1 := (boxed hix) 1 _ rfl; have q2 := (boxed hix) 2 _ rfl; have q3 := (boxed hix) 3 _ rfl; have q4 := (boxed hix) 4 _ rfl; have q5 := (boxed hix) 5 _ rfl; have q6 := (boxed hix) 6 _ rfl
        go_wp2_with fail
        refine Calls.mono (sput_c (v.kid 1) (sCand v).2.1 (sCand v).2.2 _ _ (Nat.le_refl _) _ _ _ _ _ _ _ _ _ _ _ _ _ _ _ (HSP.out.1.more fun b hb => hb.2.1) (Rep.sl_more HSP.out.2.1 fun b hb => hb.2.1) (Rep.sl_more HSP.out.2.2 fun b hb => hb.2.1) (HTT.out.next HX.out) (Nat.le_trans (kid_wt' v 1) (by omega)) hsp2 hsp3) ?_
        rintro e wx ⟨eA1, en1, ec1, eA2, en2, ec2, eA3, en3, ec3, rfl, pe, hB⟩
        clear q0 q1 q2 q3 q4 q5 q6
        have HSP := Lib.hid (HSP.out.keepS hB (by intro b hb; omega))
        (try have HL2 := Lib.hid (slKeepS HL2.out hB (by intro b hb; first | omega | (simp only [false_or] at hb; omega))))
        (try have HS := Lib.hid (HS.out.trans (hB.mono (by omega))))
        (try have HK := Lib.hid (slKeepS HK.out hB (by intro b hb; first | omega | (have := hS b hb; omega))))
        (try have pa := pa.keepS hB (by intro b hb; first | omega | (simp only [false_or] at hb; omega)))
        (try have pb := pb.keepS hB (by intro b hb; first | omega | (simp only [false_or] at hb; omega)))
        (try have pc := pc.keepS hB (by intro b hb; first | omega | (simp only [false_or] at hb; omega)))
        (try have pd := pd.keepS hB (by intro b hb; first | omega | (simp only [false_or] at hb; omega)))
        (try have pe := pe.keepS hB (by intro b hb; first | omega | (simp only [false_or] at hb; omega)))
        (try have HE := Lib.hid (slKeepS HE.out hB (by intro b hb; first | omega | (simp only [false_or] at hb; omega))))
        (try have HL := Lib.hid (slKeepS HL.out hB (by intro b hb; first | omega | (simp only [false_or] at hb; omega))))
        (try have hdx := box_below hdx hB (Array.getElem?_eq_some_iff.1 hdx).1)
        (try have hrx := box_below hrx hB (Array.getElem?_eq_some_iff.1 hrx).1)
        (try have hkx := box_below hkx hB (Array.getElem?_eq_some_iff.1 hkx).1)
        (try have hix := box_below hix hB (Array.getElem?_eq_some_iff.1 hix).1)
        (try have hjx := box_below hjx hB (Array.getElem?_eq_some_iff.1 hjx).1)
        have HX := Lib.hid (below_then HX.out hB)
        have hz := hB.size
        clear hB
        simp only [treeV]
        go_upto_region 6 with fail
        generalize hso : sOut (v.kid 1) (sCand v).2.1 (sCand v).2.2 = so at *
        generalize hse : sErr (v.kid 1) (sCand v).2.1 (sCand v).2.2 = se at *
        have HSO := Lib.hid hso
        have HSE := Lib.hid hse
        clear hso hse
        have hB := Below.alloc (Below.refl wx.heap.size wx) (Nat.le_refl _) (.cells #[.bool so.list, .bool so.hinted, .slice eA1 en1 ec1, .slice eA2 en2 ec2, .slice eA3 en3 ec3] 25)
        have hbn := box_new wx #[.bool so.list, .bool so.hinted, .slice eA1 en1 ec1, .slice eA2 en2 ec2, .slice eA3 en3 ec3] 25
        have HSP := Lib.hid (HSP.out.keepS hB (by intro b hb; omega))
        (try have HL2 := Lib.hid (slKeepS HL2.out hB (by intro b hb; first | omega | (simp only [false_or] at hb; omega))))
        (try have HS := Lib.hid (HS.out.trans (hB.mono (by omega))))
        (try have HK := Lib.hid (slKeepS HK.out hB (by intro b hb; first | omega | (have := hS b hb; omega))))
        (try have pa := pa.keepS hB (by intro b hb; first | omega | (simp only [false_or] at hb; omega)))
        (try have pb := pb.keepS hB (by intro b hb; first | omega | (simp only [false_or] at hb; omega)))
        (try have pc := pc.keepS hB (by intro b hb; first | omega | (simp only [false_or] at hb; omega)))
        (try have pd := pd.keepS hB (by intro b hb; first | omega | (simp only [false_or] at hb; omega)))
        (try have pe := pe.keepS hB (by intro b hb; first | omega | (simp only [false_or] at hb; omega)))
        (try have HE := Lib.hid (slKeepS HE.out hB (by intro b hb; first | omega | (simp only [false_or] at hb; omega))))
        (try have HL := Lib.hid (slKeepS HL.out hB (by intro b hb; first | omega | (simp only [false_or] at hb; omega))))
        (try have hdx := box_below hdx hB (Array.getElem?_eq_some_iff.1 hdx).1)
        (try have hrx := box_below hrx hB (Array.getElem?_eq_some_iff.1 hrx).1)
        (try have hkx := box_below hkx hB (Array.getElem?_eq_some_iff.1 hkx).1)
        (try have hix := box_below hix hB (Array.getElem?_eq_some_iff.1 hix).1)
        (try have hjx := box_below hjx hB (Array.getElem?_eq_some_iff.1 hjx).1)
        have HX := Lib.hid (below_then HX.out hB)
        have hz := hB.size
        have hjx := hbn
        have hgj := (Array.getElem?_eq_some_iff.1 hjx).1
        clear hB hbn
        generalize hgk5 : wx.heap.size = gk5 at *
        generalize wx.alloc (.cells #[.bool so.list, .bool so.hinted, .slice eA1 en1 ec1, .slice eA2 en2 ec2, .slice eA3 en3 ec3] 25) = wx at *
        have hw2 : w.heap.size + 2 ≤ wx.heap.size := by have := (Array.getElem?_eq_some_iff.1 hix).1; omega
        cases hm : sMay (v.kid 1) (sCand v).2.1 (sCand v).2.2 with
        | false =>
          have HG : Hid (sget v = none) := by show _ = _; rw [sget, show (sCand v).1 = v.kid 1 from rfl, hm, Bool.and_false]; rfl
          have HE3 : Hid (ek = 3 ∧ se = 3) := ⟨by rw [← HEK.out, HG.out]; rfl, by rw [← HSE.out, sErr, hm]; rfl⟩
          clear hm
          have hr0 := (boxed hrx) 0 _ rfl; have hr1 := (boxed hrx) 1 _ rfl; have hr2 := (boxed hrx) 2 _ rfl; have hr3 := (boxed hrx) 3 _ rfl; have hr4 := (boxed hrx) 4 _ rfl; have hr5 := (boxed hrx) 5 _ rfl; have hr6 := (boxed hrx) 6 _ rfl
          have hf0 := boxed_frozen hrx 0; have hf1 := boxed_frozen hrx 1; have hf2 := boxed_frozen hrx 2; have hf3 := boxed_frozen hrx 3; have hf4 := boxed_frozen hrx 4; have hf5 := boxed_frozen hrx 5; have hf6 := boxed_frozen hrx 6
          rw [HE3.out.2]
          go_wp2
          rw [HG.out, HE3.out.1]
          exact sign_ret2 (s := zeroS) (w2 := wx) (g := w.heap.size + 1) (by simp [results, Tryd.results11, go_sem, put7, signV, zeroS, zeroT, Tree.list, Tree.hinted, hr0, hr1, hr2, hr3, hr4, hr5, hr6]) rfl zeroS_parts (fun b (hb : False) => hb.elim) HX.out (by omega) (by omega)
        | true =>
          have HE0 : Hid (se = 0 ∧ so = signedT (v.kid 1) (sCand v).2.1 (sCand v).2.2) := ⟨by rw [← HSE.out, sErr, hm]; rfl, by rw [← HSO.out, sOut, hm]; rfl⟩
          have HM := Lib.hid hm
          clear hm
          rw [HE0.out.1]
          have q0 := (boxed hdx) 0 _ rfl; have q1 := (boxed hdx) 1 _ rfl; have q2 := (boxed hdx) 2 _ rfl; have q3 := (boxed hdx) 3 _ rfl; have q4 := (boxed hdx) 4 _ rfl
          have y0 := (boxed hjx) 0 _ rfl; have y1 := (boxed hjx) 1 _ rfl; have y2 := (boxed hjx) 2 _ rfl; have y3 := (boxed hjx) 3 _ rfl; have y4 := (boxed hjx) 4 _ rfl
          go_wp2_with fail
          refine Calls.mono (sxsame_c v so _ _ _ (HP.out.later HX.out).rd (pe.more (S' := fun b => b < wx.heap.size) (by intro b hb; omega)).rd) ?_
          rintro e wx ⟨rfl, hB⟩
          clear q0 q1 q2 q3 q4 y0 y1 y2 y3 y4
          have HSP := Lib.hid (HSP.out.keepS hB (by intro b hb; omega))
          (try have HL2 := Lib.hid (slKeepS HL2.out hB (by intro b hb; first | omega | (simp only [false_or] at hb; omega))))
          (try have HS := Lib.hid (HS.out.trans (hB.mono (by omega))))
          (try have HK := Lib.hid (slKeepS HK.out hB (by intro b hb; first | omega | (have := hS b hb; omega))))
          (try have pa := pa.keepS hB (by intro b hb; first | omega | (simp only [false_or] at hb; omega)))
          (try have pb := pb.keepS hB (by intro b hb; first | omega | (simp only [false_or] at hb; omega)))
          (try have pc := pc.keepS hB (by intro b hb; first | omega | (simp only [false_or] at hb; omega)))
          (try have pd := pd.keepS hB (by intro b hb; first | omega | (simp only [false_or] at hb; omega)))
          (try have pe := pe.keepS hB (by intro b hb; first | omega | (simp only [false_or] at hb; omega)))
          (try have HE := Lib.hid (slKeepS HE.out hB (by intro b hb; first | omega | (simp only [false_or] at hb; omega))))
          (try have HL := Lib.hid (slKeepS HL.out hB (by intro b hb; first | omega | (simp only [false_or] at hb; omega))))
          (try have hdx := box_below hdx hB (Array.getElem?_eq_some_iff.1 hdx).1)
          (try have hrx := box_below hrx hB (Array.getElem?_eq_some_iff.1 hrx).1)
          (try have hkx := box_below hkx hB (Array.getElem?_eq_some_iff.1 hkx).1)
          (try have hix := box_below hix hB (Array.getElem?_eq_some_iff.1 hix).1)
          (try have hjx := box_below hjx hB (Array.getElem?_eq_some_iff.1 hjx).1)
          have HX := Lib.hid (below_then HX.out hB)
          have hz := hB.size
          clear hB
          have hr0 := (boxed hrx) 0 _ rfl; have hr1 := (boxed hrx) 1 _ rfl; have hr2 := (boxed hrx) 2 _ rfl; have hr3 := (boxed hrx) 3 _ rfl; have hr4 := (boxed hrx) 4 _ rfl; have hr5 := (boxed hrx) 5 _ rfl; have hr6 := (boxed hrx) 6 _ rfl
          have hf0 := boxed_frozen hrx 0; have hf1 := boxed_frozen hrx 1; have hf2 := boxed_frozen hrx 2; have hf3 := boxed_frozen hrx 3; have hf4 := boxed_frozen hrx 4; have hf5 := boxed_frozen hrx 5; have hf6 := boxed_frozen hrx 6
          cases hq : v.same so with
          | false =>
            have HG : Hid (sget v = none) := by show _ = _; rw [sget, show (sCand v).1 = v.kid 1 from rfl, ← HE0.out.2, hq, Bool.and_false]; rfl
            have HE3 : Hid (ek = 3) := by show _ = _; rw [← HEK.out, HG.out]; rfl
            clear hq
            go_wp2
            rw [HG.out, HE3.out]
            exact sign_ret2 (s := zeroS) (w2 := wx) (g := w.heap.size + 1) (by simp [results, Tryd.results11, go_sem, put7, signV, zeroS, zeroT, Tree.list, Tree.hinted, hr0, hr1, hr2, hr3, hr4, hr5, hr6]) rfl zeroS_parts (fun b (hb : False) => hb.elim) HX.out (by omega) (by omega)
          | true =>
            have HG : Hid (sget v = some (sCand v)) := by show _ = _; rw [sget, show (sCand v).1 = v.kid 1 from rfl, ← HE0.out.2, hq, HM.out, hmy, HN.out, H4.out]; rfl
            have HE3 : Hid (ek = 0) := by show _ = _; rw [← HEK.out, HG.out]; rfl
            clear hq
            have q0 := (boxed hix) 0 _ rfl; have q1 := (boxed hix) 1 _ rfl; have q2 := (boxed hix) 2 _ rfl; have q3 := (boxed hix) 3 _ rfl; have q4 := (boxed hix) 4 _ rfl; have q5 := (boxed hix) 5 _ rfl; have q6 := (boxed hix) 6 _ rfl
            go_wp2
            rw [HG.out, HE3.out]
            exact sign_ret2 (s := sCand v) (w2 := wx) (g := w.heap.size + 1) (by simp [results, Tryd.results11, go_sem, put7, signV, sCand, hr0, hr1, hr2, hr3, hr4, hr5, hr6]) rfl HSP.out (fun b hb => ⟨.inr (by omega), by omega, by omega⟩) HX.out (by omega) (by omega)
  · have h4' : ¬ (n3 : Int) = 4 := by omega
    have HG : Hid (sget v = none) := by show _ = _; rw [sget, HN.out, beq_eq_false_iff_ne.2 h4]; rfl
    have HE3 : Hid (ek = 3) := by show _ = _; rw [← HEK.out, HG.out]; rfl
    clear hp
    have q0 := (boxed hdx) 0 _ rfl; have q1 := (boxed hdx) 1 _ rfl; have q2 := (boxed hdx) 2 _ rfl; have q3 := (boxed hdx) 3 _ rfl; have q4 := (boxed hdx) 4 _ rfl
    have hr0 := (boxed hrx) 0 _ rfl; have hr1 := (boxed hrx) 1 _ rfl; have hr2 := (boxed hrx) 2 _ rfl; have hr3 := (boxed hrx) 3 _ rfl; have hr4 := (boxed hrx) 4 _ rfl; have hr5 := (boxed hrx) 5 _ rfl; have hr6 := (boxed hrx) 6 _ rfl
    have hf0 := boxed_frozen hrx 0; have hf1 := boxed_frozen hrx 1; have hf2 := boxed_frozen hrx 2; have hf3 := boxed_frozen hrx 3; have hf4 := boxed_frozen hrx 4; have hf5 := boxed_frozen hrx 5; have hf6 := boxed_frozen hrx 6
    go_wp2
    rw [HG.out, HE3.out]
    exact sign_ret2 (s := zeroS) (w2 := wx) (g := w.heap.size + 1) (by simp [results, Tryd.results11, go_sem, put7, signV, zeroS, zeroT, Tree.list, Tree.hinted, hr0, hr1, hr2, hr3, hr4, hr5, hr6]) rfl zeroS_parts (fun b (hb : False) => hb.elim) HX.out (by omega) (by omega)
end Go.Proofs.YtdakeodebgggfaaDoor
