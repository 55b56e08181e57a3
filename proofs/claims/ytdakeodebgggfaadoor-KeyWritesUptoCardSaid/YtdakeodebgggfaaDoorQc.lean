/- Layer 14's example; are two principals the same. -/
import Derived.Test.YtdakeodebgggfaaDoorQb
import Derived.Test.YtdakeodebgggfaaDoorUz
namespace Go.Proofs.YtdakeodebgggfaaDoor
open Go.RowKit
set_option linter.unusedVariables false
set_option linter.unusedSimpArgs false

def zkeyF : List UInt8 := [40, 49, 48, 58, 112, 117, 98, 108, 105, 99, 45, 107, 101, 121, 40, 55, 58, 101, 100, 50, 53, 53, 49, 57, 51, 50, 58] ++ zeroL 32 ++ [41, 41]
theorem zkey_form : (keyV false (zeroL 32)).form = zkeyF := by
  simp only [zkeyF, keyV, Bool.false_eq_true, if_false, Tree.form_eq, Tree.atomF, listT, atomT, tPub, tEd, Tree.list, Tree.hinted, Tree.hint, Tree.data, Tree.kids, textB, zeroL, List.length_replicate, if_true, List.map_cons, List.map_nil]
  decide +kernel
theorem zkey_may : (keyV false (zeroL 32)).may = true := by
  simp only [Tree.may, zkey_form]
  simp only [keyV, Bool.false_eq_true, if_false, Tree.clean_eq, Tree.nodes_eq, Tree.deep_eq, Tree.fair, listT, atomT, Tree.list, Tree.hinted, Tree.hint, Tree.data, Tree.kids, zeroL]
  decide +kernel
theorem zkey_out : keyOut false (zeroL 32) = keyV false (zeroL 32) ∧ keyErr false (zeroL 32) = 0 := by
  have h : keyMay false (zeroL 32) = true := by simp [keyMay, zeroL]
  exact ⟨by rw [keyOut, h]; rfl, by rw [keyErr, h]; rfl⟩
theorem zkey_wt : (keyV false (zeroL 32)).wt ≤ 10000000 := by
  simp only [keyV, Bool.false_eq_true, if_false, listT_wt, atomT_wt, List.map_cons, List.map_nil, List.sum_cons, List.sum_nil, tPub, tEd, List.length_cons, List.length_nil, zeroL_len]
  decide

set_option maxHeartbeats 2000000 in
set_option maxRecDepth 100000 in
theorem awake14_c (w : World) (hT : Tabs w.heap.size w) : Calls Tryd.prog 14 #[] w (Tells w (.bool true)) := by
  have HTT := Lib.hid hT
  clear hT
  obtain ⟨w1, hrun0, hsl0, hB⟩ := make_u8 TB w 32 (by decide)
  have hrun : Sem.run _ (Instr.makeSlice 22 (Value.int IntKind.i64 32) (Value.int IntKind.i64 32)) w = _ := hrun0
  have HX := Lib.hid hB
  have HSL := Lib.hid (Rep.sl_more hsl0 fun b hb => hb.2)
  clear hsl0 hB
  have hz := HX.out.size
  go_enter Tryd.func14, Tryd.ntmps14
  go_wp2_with fail
  clear hrun hrun0
  generalize w1 = wx at *
  refine Calls.mono (kput_c false (zeroL 32) _ 32 32 _ wx.heap.size (Nat.le_refl _) HSL.out (by decide)) ?_
  rintro e wx ⟨kA1, kn1, kc1, kA2, kn2, kc2, kA3, kn3, kc3, rfl, pc, hB⟩
  (try have HL2 := Lib.hid (slKeepS HL2.out hB (by intro b hb; first | omega | (simp only [false_or] at hb; omega))))
  (try have HS := Lib.hid (HS.out.trans (hB.mono (by omega))))
  (try have HK := Lib.hid (slKeepS HK.out hB (by intro b hb; first | omega | (have := hS b hb; omega))))
  (try have pa := pa.keepS hB (by intro b hb; first | omega | (simp only [false_or] at hb; omega)))
  (try have pb := pb.keepS hB (by intro b hb; first | omega | (simp only [false_or] at hb; omega)))
  (try have pc := pc.keepS hB (by intro b hb; first | omega | (simp only [false_or] at hb; omega)))
  (try have pd := pd.keepS hB (by intro b hb; first | omega | (simp only [false_or] at hb; omega)))
  (try have pe := pe.keepS hB (by intro b hb; first | omega | (simp only [false_or] at hb; omega)))
  (try have HE := Lib.hid (slKeepS HE.out hB (by intro b hb; first | omega | (simp only [false_or] at hb; omega))))
  (try have HL := Lib.hid (slKeepS HL.out hB (by intro b hb; first | omega | (simp only [false_or] at hb; omega))))
  (try have hdx := box_below hdx hB (Array.getElem?_eq_some_iff.1 hdx).1)
  (try have hrx := box_below hrx hB (Array.getElem?_eq_some_iff.1 hrx).1)
  (try have hkx := box_below hkx hB (Array.getElem?_eq_some_iff.1 hkx).1)
  (try have hix := box_below hix hB (Array.getElem?_eq_some_iff.1 hix).1)
  (try have hjx := box_below hjx hB (Array.getElem?_eq_some_iff.1 hjx).1)
  have HX := Lib.hid (below_then HX.out hB)
  have hz := hB.size
  clear hB
  rw [zkey_out.1, zkey_out.2] at *
  simp only [treeV]
  go_upto_region 2 with fail
  have hB := Below.alloc (Below.refl wx.heap.size wx) (Nat.le_refl _) (.cells #[.bool (keyV false (zeroL 32)).list, .bool (keyV false (zeroL 32)).hinted, .slice kA1 kn1 kc1, .slice kA2 kn2 kc2, .slice kA3 kn3 kc3] 25)
  have hbn := box_new wx #[.bool (keyV false (zeroL 32)).list, .bool (keyV false (zeroL 32)).hinted, .slice kA1 kn1 kc1, .slice kA2 kn2 kc2, .slice kA3 kn3 kc3] 25
  (try have HL2 := Lib.hid (slKeepS HL2.out hB (by intro b hb; first | omega | (simp only [false_or] at hb; omega))))
  (try have HS := Lib.hid (HS.out.trans (hB.mono (by omega))))
  (try have HK := Lib.hid (slKeepS HK.out hB (by intro b hb; first | omega | (have := hS b hb; omega))))
  (try have pa := pa.keepS hB (by intro b hb; first | omega | (simp only [false_or] at hb; omega)))
  (try have pb := pb.keepS hB (by intro b hb; first | omega | (simp only [false_or] at hb; omega)))
  (try have pc := pc.keepS hB (by intro b hb; first | omega | (simp only [false_or] at hb; omega)))
  (try have pd := pd.keepS hB (by intro b hb; first | omega | (simp only [false_or] at hb; omega)))
  (try have pe := pe.keepS hB (by intro b hb; first | omega | (simp only [false_or] at hb; omega)))
  (try have HE := Lib.hid (slKeepS HE.out hB (by intro b hb; first | omega | (simp only [false_or] at hb; omega))))
  (try have HL := Lib.hid (slKeepS HL.out hB (by intro b hb; first | omega | (simp only [false_or] at hb; omega))))
  (try have hdx := box_below hdx hB (Array.getElem?_eq_some_iff.1 hdx).1)
  (try have hrx := box_below hrx hB (Array.getElem?_eq_some_iff.1 hrx).1)
  (try have hkx := box_below hkx hB (Array.getElem?_eq_some_iff.1 hkx).1)
  (try have hix := box_below hix hB (Array.getElem?_eq_some_iff.1 hix).1)
  (try have hjx := box_below hjx hB (Array.getElem?_eq_some_iff.1 hjx).1)
  have HX := Lib.hid (below_then HX.out hB)
  have hz := hB.size
  have hkx := hbn
  have hlgk3 := (Array.getElem?_eq_some_iff.1 hkx).1
  clear hB hbn
  generalize hggk3 : wx.heap.size = gk3 at *
  generalize wx.alloc (.cells #[.bool (keyV false (zeroL 32)).list, .bool (keyV false (zeroL 32)).hinted, .slice kA1 kn1 kc1, .slice kA2 kn2 kc2, .slice kA3 kn3 kc3] 25) = wx at *
  have q0 := (boxed hkx) 0 _ rfl; have q1 := (boxed hkx) 1 _ rfl; have q2 := (boxed hkx) 2 _ rfl; have q3 := (boxed hkx) 3 _ rfl; have q4 := (boxed hkx) 4 _ rfl
  go_wp2_with fail
  refine Calls.mono (sxput_c (keyV false (zeroL 32)) _ _ (pc.more fun b hb => by omega).rd (HTT.out.next HX.out) zkey_wt) ?_
  rintro e wx ⟨bA, bn, bc, rfl, hs, hB⟩
  rw [zkey_may] at hs ⊢
  have HX := Lib.hid (below_then HX.out hB)
  simp only [if_true] at hs ⊢
  rw [zkey_form] at hs
  have hn : bn = 61 := by rw [← hs.1]; decide +kernel
  subst hn
  have hbc := hs.2.1
  have hcm := hs.2.2.1
  have ht := Rep.sl_take hs (k := 25) (by decide)
  have e25 : zkeyF.take 25 = [40, 49, 48, 58, 112, 117, 98, 108, 105, 99, 45, 107, 101, 121, 40, 55, 58, 101, 100, 50, 53, 53, 49, 57, 51] := by decide +kernel
  rw [e25] at ht
  have ka := conv_bs Tryd.underlying22 Tryd.underlying5 Tryd.underlying9 ht
  have h25 : (25 : Int) ≤ (bc : Int) := by omega
  clear q0 q1 q2 q3 q4 hs ht hB
  go_wp2
  go_ret
  exact ⟨rfl, HX.out⟩

def keySame (s u : Bool) (d e : List UInt8) : Bool := s == u && d == e
set_option maxHeartbeats 1000000 in
set_option maxRecDepth 100000 in
theorem refksame_c (s u : Bool) (d e : List UInt8) (A B : Option Addr) (n c m k : Nat) (w : World) (S S' : Nat → Prop) (hS : ∀ b, S b → b < w.heap.size) (hS' : ∀ b, S' b → b < w.heap.size) (hd : Rep.u8.sl w S A n c d) (he : Rep.u8.sl w S' B m k e) :
    Calls Tryd.prog 21 #[.agg #[.bool s, .slice A n c], .agg #[.bool u, .slice B m k]] w (Tells w (.bool (keySame s u d e))) := by
  have HX := Lib.hid ((Below.alloc (Below.refl _ w) (Nat.le_refl _) (.cells #[.bool s, .slice A n c] 38)).alloc (by simp only [World.size_alloc]; omega) (.cells #[.bool u, .slice B m k] 38))
  have ka := conv_bs Tryd.underlying22 Tryd.underlying5 Tryd.underlying9 (Rep.sl_below hd HX.out hS)
  have kb := conv_bs Tryd.underlying22 Tryd.underlying5 Tryd.underlying9 (Rep.sl_below he HX.out hS')
  have HK : Hid (keySame s u d e = (s == u && d == e)) := rfl
  clear hd he
  go_enter Tryd.func21, Tryd.ntmps21
  cases s <;> cases u
  all_goals
    go_wp2
    go_ret
    exact ⟨by rw [HK.out]; rfl, HX.out⟩
end Go.Proofs.YtdakeodebgggfaaDoor
