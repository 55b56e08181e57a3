/- A signed value's value, as the program puts it. -/
import Derived.Test.YtdakeodebgggfaaDoorUh
namespace Go.Proofs.YtdakeodebgggfaaDoor
open Go.RowKit
set_option linter.unusedVariables false
set_option linter.unusedSimpArgs false

def tSigned : List UInt8 := [115, 105, 103, 110, 101, 100]
def signedT (b : Tree) (p s : List UInt8) : Tree := listT [atomT tSigned, b, keyV false p, atomT s]
def sMay (b : Tree) (p s : List UInt8) : Bool := p.length == 32 && s.length == 64 && (signedT b p s).may
def sOut (b : Tree) (p s : List UInt8) : Tree := if sMay b p s then signedT b p s else zeroT
def sErr (b : Tree) (p s : List UInt8) : Int := if sMay b p s then 0 else 3
theorem atomT_wt (s : List UInt8) : (atomT s).wt = 1 + s.length := by rw [Tree.wt_eq]; simp [atomT, Tree.hint, Tree.data, Tree.kids]
theorem listT_wt (l : List Tree) : (listT l).wt = 1 + (l.map Tree.wt).sum := by rw [Tree.wt_eq]; simp [listT, Tree.hint, Tree.data, Tree.kids]
theorem signedT_wt (b : Tree) (p s : List UInt8) : (signedT b p s).wt = b.wt + p.length + s.length + 31 := by
  simp only [signedT, keyV, Bool.false_eq_true, if_false, listT_wt, atomT_wt, List.map_cons, List.map_nil, List.sum_cons, List.sum_nil, tSigned, tPub, tEd, List.length_cons, List.length_nil]
  omega

theorem slKeepS {α : Type} {r : Rep α} {w w1 : World} {S : Nat → Prop} {A : Option Addr} {n c : Nat} {x : List α} (hs : r.sl w S A n c x) (hB : Below w.heap.size w w1) (hS : ∀ b, S b → b < w.heap.size) : r.sl w1 S A n c x := Rep.sl_below hs hB hS
theorem slFarS {α : Type} {r : Rep α} {w w1 : World} {S : Nat → Prop} {A : Option Addr} {n c g : Nat} {x : List α} (hs : r.sl w S A n c x) (hg : w.grownBy w1 (some g)) (hS : ∀ b, S b → b < w.heap.size ∧ b ≠ g) : r.sl w1 S A n c x :=
  Rep.sl_grown hs hg fun b hb => ⟨(hS b hb).1, by have := (hS b hb).2; simpa using this⟩
theorem Parts.keepS {w w1 : World} {S : Nat → Prop} {t : Tree} {A1 A2 A3 : Option Addr} {n1 c1 n2 c2 n3 c3 : Nat} (hp : Parts w S t A1 n1 c1 A2 n2 c2 A3 n3 c3) (hB : Below w.heap.size w w1) (hS : ∀ b, S b → b < w.heap.size) : Parts w1 S t A1 n1 c1 A2 n2 c2 A3 n3 c3 :=
  ⟨slKeepS hp.1 hB hS, slKeepS hp.2.1 hB hS, slKeepS hp.2.2 hB hS⟩
theorem Parts.farS {w w1 : World} {S : Nat → Prop} {t : Tree} {A1 A2 A3 : Option Addr} {n1 c1 n2 c2 n3 c3 g : Nat} (hp : Parts w S t A1 n1 c1 A2 n2 c2 A3 n3 c3) (hg : w.grownBy w1 (some g)) (hS : ∀ b, S b → b < w.heap.size ∧ b ≠ g) : Parts w1 S t A1 n1 c1 A2 n2 c2 A3 n3 c3 :=
  ⟨slFarS hp.1 hg hS, slFarS hp.2.1 hg hS, slFarS hp.2.2 hg hS⟩
/-- A tree that reads through S and what is new. -/
def TreePostS (w : World) (S : Nat → Prop) (t : Tree) (e : Ending) (w' : World) : Prop := ∃ A1 n1 c1 A2 n2 c2 A3 n3 c3, e = .returned (treeV t A1 n1 c1 A2 n2 c2 A3 n3 c3) ∧ Parts w' (fun b => S b ∨ (w.heap.size ≤ b ∧ b < w'.heap.size)) t A1 n1 c1 A2 n2 c2 A3 n3 c3 ∧ Below w.heap.size w w'
theorem treeS_ret2 {P : Program} {fn : Func} {a : Act} {w w2 : World} {S S' : Nat → Prop} {t : Tree} {g : Nat} {A1 A2 A3 : Option Addr} {n1 c1 n2 c2 n3 c3 : Nat}
    (hr : (results fn a.tmps).run P (put5 w2 g 0 (.bool t.list) (.bool t.hinted) (.slice A1 n1 c1) (.slice A2 n2 c2) (.slice A3 n3 c3)) = .ok (treeV t A1 n1 c1 A2 n2 c2 A3 n3 c3) (put5 w2 g 0 (.bool t.list) (.bool t.hinted) (.slice A1 n1 c1) (.slice A2 n2 c2) (.slice A3 n3 c3))) (hd : a.defers = [])
    (hp : Parts w2 S' t A1 n1 c1 A2 n2 c2 A3 n3 c3) (hS : ∀ b, S' b → (S b ∨ w.heap.size ≤ b) ∧ b < w2.heap.size ∧ b ≠ g) (hB : Below w.heap.size w w2) (hg : w.heap.size ≤ g) (hg2 : g < w2.heap.size) :
    bodyPost P fn (TreePostS w S t) .ret a (put5 w2 g 0 (.bool t.list) (.bool t.hinted) (.slice A1 n1 c1) (.slice A2 n2 c2) (.slice A3 n3 c3)) :=
  bodyPost_ret hr hd ⟨_, _, _, _, _, _, _, _, _, rfl, (hp.farS (put5_grown ..) fun b hb => (hS b hb).2).more (fun b hb => by
    rw [put5_size]
    rcases (hS b hb).1 with h | h
    · exact .inl h
    · exact .inr ⟨h, (hS b hb).2.1⟩), hB.grown (put5_grown ..) hB.size fun k hk => by injection hk; omega⟩
set_option maxHeartbeats 1000000 in
set_option maxRecDepth 100000 in
theorem listsxS_c (l : List Tree) (A : Option Addr) (n c : Nat) (w : World) (S : Nat → Prop) (hb : ∀ b, S b → b < w.heap.size) (hs : Rep.tree.sl w S A n c l) (hn : n ≤ 1000000000) : Calls Tryd.prog 42 #[.slice A n c] w (TreePostS w S (listT l)) := by
  have hrx0 := box_new w #[.bool false, .bool false, .slice none 0 0, .slice none 0 0, .slice none 0 0] 25
  have HB0 := Lib.hid (Below.alloc (Below.refl _ w) (Nat.le_refl _) (.cells #[.bool false, .bool false, .slice none 0 0, .slice none 0 0, .slice none 0 0] 25))
  have HS := Lib.hid (Rep.sl_below hs HB0.out hb)
  clear hs
  go_enter Tryd.func42, Tryd.ntmps42
  go_wp2_with fail
  refine Calls.mono (sclone_c l A n c _ S (fun b h => by have := hb b h; simp only [World.size_alloc]; omega) HS.out hn) ?_
  rintro e w2 ⟨v, rfl, ho, hB⟩
  have hlt := Rep.own_lt ho
  obtain ⟨A2, c2, rfl, hsl⟩ := Rep.own_sl ho
  have hrx := box_below hrx0 hB (by simp)
  have hz := hB.size
  simp only [World.size_alloc] at hz hlt
  have HO : Hid (Rep.tree.sl w2 (fun b => (S b ∨ w.heap.size ≤ b) ∧ b < w2.heap.size ∧ b ≠ w.heap.size) A2 l.length c2 l) := Rep.sl_more hsl fun b h => by
    rcases h with h | h
    · have := hb b h
      exact ⟨.inl h, by omega, by omega⟩
    · have := hlt b h
      exact ⟨.inr (by omega), by omega, by omega⟩
  have HB := Lib.hid (below_then HB0.out hB)
  have HZ := Lib.hid hz
  clear hsl ho hB hrx0 hlt hz
  have hr0 := (boxed hrx) 0 _ rfl; have hr1 := (boxed hrx) 1 _ rfl; have hr2 := (boxed hrx) 2 _ rfl; have hr3 := (boxed hrx) 3 _ rfl; have hr4 := (boxed hrx) 4 _ rfl
  have hf0 := boxed_frozen hrx 0; have hf1 := boxed_frozen hrx 1; have hf2 := boxed_frozen hrx 2; have hf3 := boxed_frozen hrx 3; have hf4 := boxed_frozen hrx 4
  go_wp2
  exact treeS_ret2 (t := listT l) (w2 := w2) (g := w.heap.size) (by simp [results, Tryd.results42, go_sem, treeV, atomT, listT, Tree.list, Tree.hinted, put5, hr0, hr1, hr2, hr3, hr4]) rfl ⟨Rep.sl_nil, Rep.sl_nil, HO.out⟩ (fun b hb => hb) HB.out (Nat.le_refl _) (by have := HZ.out; omega)

set_option maxHeartbeats 4000000 in
set_option maxRecDepth 100000 in
theorem sput_c (b : Tree) (p s : List UInt8) (w : World) (base : Nat) (hbase : base ≤ w.heap.size) (A1 A2 A3 Ap As : Option Addr) (n1 c1 n2 c2 n3 c3 np cp ns cs : Nat) (hb : Parts w (fun b => b < w.heap.size) b A1 n1 c1 A2 n2 c2 A3 n3 c3)
    (hp : Rep.u8.sl w (fun b => b < w.heap.size) Ap np cp p) (hs : Rep.u8.sl w (fun b => b < w.heap.size) As ns cs s) (hT : Tabs w.heap.size w) (hw : b.wt ≤ 2000000) (hnp : np ≤ 2000000) (hns : ns ≤ 2000000) :
    Calls Tryd.prog 34 #[.agg #[.bool b.list, .bool b.hinted, .slice A1 n1 c1, .slice A2 n2 c2, .slice A3 n3 c3, .slice Ap np cp, .slice As ns cs]] w (TreeE w base (sOut b p s) (sErr b p s)) := by
  have HX := Lib.hid ((Below.alloc (Below.refl _ w) (Nat.le_refl _) (.cells #[.bool b.list, .bool b.hinted, .slice A1 n1 c1, .slice A2 n2 c2, .slice A3 n3 c3, .slice Ap np cp, .slice As ns cs] 29)).alloc (by simp only [World.size_alloc]; omega) (.cells #[.bool false, .bool false, .slice none 0 0, .slice none 0 0, .slice none 0 0] 25))
  have hdx := box_alloc (box_new w #[.bool b.list, .bool b.hinted, .slice A1 n1 c1, .slice A2 n2 c2, .slice A3 n3 c3, .slice Ap np cp, .slice As ns cs] 29) (.cells #[.bool false, .bool false, .slice none 0 0, .slice none 0 0, .slice none 0 0] 25)
  have hrx := box_new1 (w := w) (o := .cells #[.bool b.list, .bool b.hinted, .slice A1 n1 c1, .slice A2 n2 c2, .slice A3 n3 c3, .slice Ap np cp, .slice As ns cs] 29) (cs := #[.bool false, .bool false, .slice none 0 0, .slice none 0 0, .slice none 0 0]) (t := 25)
  have HBD := Lib.hid hb
  have HPU := Lib.hid hp
  have HSG := Lib.hid hs
  have HTT := Lib.hid hT
  have HPN := Lib.hid hp.1
  have HSN := Lib.hid hs.1
  have HW : Hid ((signedT b p s).wt ≤ 10000000) := by show _ ≤ _; rw [signedT_wt, hp.1, hs.1]; omega
  have hz : w.heap.size + 2 ≤ ((w.alloc (.cells #[.bool b.list, .bool b.hinted, .slice A1 n1 c1, .slice A2 n2 c2, .slice A3 n3 c3, .slice Ap np cp, .slice As ns cs] 29)).alloc (.cells #[.bool false, .bool false, .slice none 0 0, .slice none 0 0, .slice none 0 0] 25)).heap.size := by simp only [World.size_alloc]; omega
  clear hb hp hs hT
  go_enter Tryd.func34, Tryd.ntmps34
  go_wp2_with fail
  refine Calls.mono (kput_c false p Ap np cp _ (w.heap.size + 2) hz (sl_later HPU.out HX.out) (by omega)) ?_
  rintro e wx ⟨kA1, kn1, kc1, kA2, kn2, kc2, kA3, kn3, kc3, rfl, pc, hB⟩
  have hdx := box_below hdx hB (Array.getElem?_eq_some_iff.1 hdx).1
  have hrx := box_below hrx hB (Array.getElem?_eq_some_iff.1 hrx).1
  have HX := Lib.hid (below_then HX.out hB)
  have hz := Nat.le_trans hz hB.size
  clear hB
  simp only [treeV]
  go_upto_region 2 with fail
  have hB := Below.alloc (Below.refl wx.heap.size wx) (Nat.le_refl _) (.cells #[.bool (keyOut false p).list, .bool (keyOut false p).hinted, .slice kA1 kn1 kc1, .slice kA2 kn2 kc2, .slice kA3 kn3 kc3] 25)
  have hbn := box_new wx #[.bool (keyOut false p).list, .bool (keyOut false p).hinted, .slice kA1 kn1 kc1, .slice kA2 kn2 kc2, .slice kA3 kn3 kc3] 25
  (try have HL2 := Lib.hid (slKeepS HL2.out hB (by intro b hb; first | omega | (simp only [false_or] at hb; omega))))
  (try have HS := Lib.hid (HS.out.trans (hB.mono (by omega))))
  (try have HK := Lib.hid (slKeepS HK.out hB (by intro b hb; first | omega | (have := hS b hb; omega))))
  (try have pa := pa.keepS hB (by intro b hb; first | omega | (simp only [false_or] at hb; omega)))
  (try have pb := pb.keepS hB (by intro b hb; first | omega | (simp only [false_or] at hb; omega)))
  (try have pc := pc.keepS hB (by intro b hb; first | omega | (simp only [false_or] at hb; omega)))
  (try have pd := pd.keepS hB (by intro b hb; first | omega | (simp only [false_or] at hb; omega)))
  (try have pe := pe.keepS hB (by intro b hb; first | omega | (simp only [false_or] at hb; omega)))
  (try have HE := Lib.hid (slKeepS HE.out hB (by intro b hb; first | omega | (simp only [false_or] at hb; omega))))
  (try have HL := Lib.hid (slKeepS HL.out hB (by intro b hb; first | omega | (simp only [false_or] at hb; omega))))
  (try have hdx := box_below hdx hB (Array.getElem?_eq_some_iff.1 hdx).1)
  (try have hrx := box_below hrx hB (Array.getElem?_eq_some_iff.1 hrx).1)
  (try have hkx := box_below hkx hB (Array.getElem?_eq_some_iff.1 hkx).1)
  (try have hix := box_below hix hB (Array.getElem?_eq_some_iff.1 hix).1)
  (try have hjx := box_below hjx hB (Array.getElem?_eq_some_iff.1 hjx).1)
  have HX := Lib.hid (below_then HX.out hB)
  have hz := hB.size
  have hkx := hbn
  have hgl := (Array.getElem?_eq_some_iff.1 hkx).1
  clear hB hbn
  generalize hgk3 : wx.heap.size = gk3 at *
  generalize wx.alloc (.cells #[.bool (keyOut false p).list, .bool (keyOut false p).hinted, .slice kA1 kn1 kc1, .slice kA2 kn2 kc2, .slice kA3 kn3 kc3] 25) = wx at *
  have hr0 := (boxed hrx) 0 _ rfl; have hr1 := (boxed hrx) 1 _ rfl; have hr2 := (boxed hrx) 2 _ rfl; have hr3 := (boxed hrx) 3 _ rfl; have hr4 := (boxed hrx) 4 _ rfl
  have hf0 := boxed_frozen hrx 0; have hf1 := boxed_frozen hrx 1; have hf2 := boxed_frozen hrx 2; have hf3 := boxed_frozen hrx 3; have hf4 := boxed_frozen hrx 4
  cases hm : keyMay false p with
  | false =>
    have HE : Hid (keyErr false p = 7) := by show _ = _; rw [keyErr, hm]; rfl
    have HO : Hid (sOut b p s = zeroT ∧ sErr b p s = 3) := by
      have : sMay b p s = false := by simp [sMay, show (p.length == 32) = false from hm]
      exact ⟨by rw [sOut, this]; rfl, by rw [sErr, this]; rfl⟩
    clear hm
    rw [HE.out]
    go_wp2
    rw [HO.out.1, HO.out.2]
    exact treeE_ret2 (t := zeroT) (w2 := wx) (g := w.heap.size + 1) (by simp [results, Tryd.results34, go_sem, treeV, atomT, listT, Tree.list, Tree.hinted, put5, zeroT, hr0, hr1, hr2, hr3, hr4]) rfl ⟨Rep.sl_nil, Rep.sl_nil, Rep.sl_nil⟩ (fun b (hb : False) => hb.elim) HX.out (by omega) (by omega)
  | true =>
    have HE : Hid (keyErr false p = 0 ∧ keyOut false p = keyV false p) := ⟨by rw [keyErr, hm]; rfl, by rw [keyOut, hm]; rfl⟩
    have HM := Lib.hid hm
    clear hm
    by_cases h64 : ns = 64
    · have h64' : ((ns : Int) == 64) = true := by rw [h64]; rfl
      have H64 := Lib.hid h64
      clear h64
      rw [HE.out.1]
      rw [HE.out.2] at pc hkx
      have hd0 := (boxed hdx) 0 _ rfl; have hd1 := (boxed hdx) 1 _ rfl; have hd2 := (boxed hdx) 2 _ rfl; have hd3 := (boxed hdx) 3 _ rfl; have hd4 := (boxed hdx) 4 _ rfl; have hd5 := (boxed hdx) 5 _ rfl; have hd6 := (boxed hdx) 6 _ rfl
      clear hr0 hr1 hr2 hr3 hr4 hf0 hf1 hf2 hf3 hf4
      go_upto_region 4 with fail
      clear hd0 hd1 hd2 hd3 hd4 hd5 hd6
      go_cut [6] (fun s4 wx => ∃ gi A1 n1 c1 A2 n2 c2 A3 n3 c3, s4 = .pointer (some ⟨gi, 0, none⟩) ∧ Hid (Parts wx (fun b => w.heap.size + 2 ≤ b ∧ b < wx.heap.size ∧ b ≠ gi) (signedT b p s) A1 n1 c1 A2 n2 c2 A3 n3 c3) ∧ wx.heap[gi]? = some (.cells #[.bool (signedT b p s).list, .bool (signedT b p s).hinted, .slice A1 n1 c1, .slice A2 n2 c2, .slice A3 n3 c3] 25 (0, 0)) ∧
        wx.heap[w.heap.size + 1]? = some (.cells #[.bool false, .bool false, .slice none 0 0, .slice none 0 0, .slice none 0 0] 25 (0, 0)) ∧ Hid (Below w.heap.size w wx))
      case first =>
        have hB := (Below.refl wx.heap.size wx).drew
        (try have HL2 := Lib.hid (slKeepS HL2.out hB (by intro b hb; first | omega | (simp only [false_or] at hb; omega))))
        (try have HS := Lib.hid (HS.out.trans (hB.mono (by omega))))
        (try have HK := Lib.hid (slKeepS HK.out hB (by intro b hb; first | omega | (have := hS b hb; omega))))
        (try have pa := pa.keepS hB (by intro b hb; first | omega | (simp only [false_or] at hb; omega)))
        (try have pb := pb.keepS hB (by intro b hb; first | omega | (simp only [false_or] at hb; omega)))
        (try have pc := pc.keepS hB (by intro b hb; first | omega | (simp only [false_or] at hb; omega)))
        (try have pd := pd.keepS hB (by intro b hb; first | omega | (simp only [false_or] at hb; omega)))
        (try have pe := pe.keepS hB (by intro b hb; first | omega | (simp only [false_or] at hb; omega)))
        (try have HE := Lib.hid (slKeepS HE.out hB (by intro b hb; first | omega | (simp only [false_or] at hb; omega))))
        (try have HL := Lib.hid (slKeepS HL.out hB (by intro b hb; first | omega | (simp only [false_or] at hb; omega))))
        (try have hdx := box_below hdx hB (Array.getElem?_eq_some_iff.1 hdx).1)
        (try have hrx := box_below hrx hB (Array.getElem?_eq_some_iff.1 hrx).1)
        (try have hkx := box_below hkx hB (Array.getElem?_eq_some_iff.1 hkx).1)
        (try have hix := box_below hix hB (Array.getElem?_eq_some_iff.1 hix).1)
        (try have hjx := box_below hjx hB (Array.getElem?_eq_some_iff.1 hjx).1)
        have HX := Lib.hid (below_then HX.out hB)
        have hz := hB.size
        clear hB
        have hS := And.intro hdx hkx
        refine wp_region_D (fun w' => w'.heap[w.heap.size]? = some (.cells #[.bool b.list, .bool b.hinted, .slice A1 n1 c1, .slice A2 n2 c2, .slice A3 n3 c3, .slice Ap np cp, .slice As ns cs] 29 (0, 0)) ∧ w'.heap[gk3]? = some (.cells #[.bool (keyV false p).list, .bool (keyV false p).hinted, .slice kA1 kn1 kc1, .slice kA2 kn2 kc2, .slice kA3 kn3 kc3] 25 (0, 0))) [12] (by kernel_rfl) ?_
        generalize wx.drew = wx at *
        refine wpAnyD_take (i := 1) (v := ?_) rfl (by kernel_rfl) (by kernel_rfl) (by kernel_rfl) (by kernel_rfl) (fun _ _ _ h => by first | exact h | cases h.1) (by rfl) (by kernel_rfl) (Or.inl ⟨by rfl, ?_⟩) (by first | exact HS.out | exact hS | exact hdx | exact ⟨hdx, hkx⟩) ?_
        rotate_left
        · (intro w' hw'; (try dsimp only at hw'); skip; go_simp; first | done | with_reducible rfl)
        (try simp only [List.getElem_toArray, List.getElem_cons_zero, List.getElem_cons_succ, Act.put, List.setIfInBounds_toArray, List.set_cons_zero, List.set_cons_succ])
        refine wpAnyD_take (i := 2) (v := ?_) rfl (by kernel_rfl) (by kernel_rfl) (by kernel_rfl) (by kernel_rfl) (fun _ _ _ h => by first | exact h | cases h.1) (by rfl) (by kernel_rfl) (Or.inl ⟨by rfl, ?_⟩) (by first | exact HS.out | exact hS | exact hdx | exact ⟨hdx, hkx⟩) ?_
        rotate_left
        · (intro w' hw'; (try dsimp only at hw'); (have c0 := (boxed hw'.1) 0 _ rfl; have c1 := (boxed hw'.1) 1 _ rfl; have c2 := (boxed hw'.1) 2 _ rfl; have c3 := (boxed hw'.1) 3 _ rfl; have c4 := (boxed hw'.1) 4 _ rfl; have c5 := (boxed hw'.1) 5 _ rfl; have c6 := (boxed hw'.1) 6 _ rfl); go_simp; first | done | with_reducible rfl)
        (try simp only [List.getElem_toArray, List.getElem_cons_zero, List.getElem_cons_succ, Act.put, List.setIfInBounds_toArray, List.set_cons_zero, List.set_cons_succ])
        refine wpAnyD_take (i := 4) (v := ?_) rfl (by kernel_rfl) (by kernel_rfl) (by kernel_rfl) (by kernel_rfl) (fun _ _ _ h => by first | exact h | cases h.1) (by rfl) (by kernel_rfl) (Or.inl ⟨by rfl, ?_⟩) (by first | exact HS.out | exact hS | exact hdx | exact ⟨hdx, hkx⟩) ?_
        rotate_left
        · (intro w' hw'; (try dsimp only at hw'); (have c0 := (boxed hw'.2) 0 _ rfl; have c1 := (boxed hw'.2) 1 _ rfl; have c2 := (boxed hw'.2) 2 _ rfl; have c3 := (boxed hw'.2) 3 _ rfl; have c4 := (boxed hw'.2) 4 _ rfl); go_simp; first | done | with_reducible rfl)
        (try simp only [List.getElem_toArray, List.getElem_cons_zero, List.getElem_cons_succ, Act.put, List.setIfInBounds_toArray, List.set_cons_zero, List.set_cons_succ])
        refine wpAnyD_take (i := 5) (v := ?_) rfl (by kernel_rfl) (by kernel_rfl) (by kernel_rfl) (by kernel_rfl) (fun _ _ _ h => by first | exact h | cases h.1) (by rfl) (by kernel_rfl) (Or.inl ⟨by rfl, ?_⟩) (by first | exact HS.out | exact hS | exact hdx | exact ⟨hdx, hkx⟩) ?_
        rotate_left
        · (intro w' hw'; (try dsimp only at hw'); skip; go_simp; first | done | with_reducible rfl)
        (try simp only [List.getElem_toArray, List.getElem_cons_zero, List.getElem_cons_succ, Act.put, List.setIfInBounds_toArray, List.set_cons_zero, List.set_cons_succ])
        refine wpAnyD_take (i := 6) (v := ?_) rfl (by kernel_rfl) (by kernel_rfl) (by kernel_rfl) (by kernel_rfl) (fun _ _ _ h => by first | exact h | cases h.1) (by rfl) (by kernel_rfl) (Or.inl ⟨by rfl, ?_⟩) (by first | exact HS.out | exact hS | exact hdx | exact ⟨hdx, hkx⟩) ?_
        rotate_left
        · (intro w' hw'; (try dsimp only at hw'); (have c0 := (boxed hw'.1) 0 _ rfl; have c1 := (boxed hw'.1) 1 _ rfl; have c2 := (boxed hw'.1) 2 _ rfl; have c3 := (boxed hw'.1) 3 _ rfl; have c4 := (boxed hw'.1) 4 _ rfl; have c5 := (boxed hw'.1) 5 _ rfl; have c6 := (boxed hw'.1) 6 _ rfl); go_simp; first | done | with_reducible rfl)
        (try simp only [List.getElem_toArray, List.getElem_cons_zero, List.getElem_cons_succ, Act.put, List.setIfInBounds_toArray, List.set_cons_zero, List.set_cons_succ])
        refine wpAnyD_all (rs := [0, 11]) (by kernel_rfl) (by simp) (AllD.cons rfl (by rfl) (fun K hK => ?_) (AllD.cons rfl (by rfl) (fun K hK => ?_) AllD.nil))
        · go_simp
          refine Calls.mono (atomsx_c tSigned _ _ (Nat.le_refl _) (by decide)) ?_
          rintro e wx ⟨aA1, an1, ac1, aA2, an2, ac2, aA3, an3, ac3, rfl, hq, hB⟩
          (try have HL2 := Lib.hid (slKeepS HL2.out hB (by intro b hb; first | omega | (simp only [false_or] at hb; omega))))
          (try have HS := Lib.hid (HS.out.trans (hB.mono (by omega))))
          (try have HK := Lib.hid (slKeepS HK.out hB (by intro b hb; first | omega | (have := hS b hb; omega))))
          (try have pa := pa.keepS hB (by intro b hb; first | omega | (simp only [false_or] at hb; omega)))
          (try have pb := pb.keepS hB (by intro b hb; first | omega | (simp only [false_or] at hb; omega)))
          (try have pc := pc.keepS hB (by intro b hb; first | omega | (simp only [false_or] at hb; omega)))
          (try have pd := pd.keepS hB (by intro b hb; first | omega | (simp only [false_or] at hb; omega)))
          (try have pe := pe.keepS hB (by intro b hb; first | omega | (simp only [false_or] at hb; omega)))
          (try have HE := Lib.hid (slKeepS HE.out hB (by intro b hb; first | omega | (simp only [false_or] at hb; omega))))
          (try have HL := Lib.hid (slKeepS HL.out hB (by intro b hb; first | omega | (simp only [false_or] at hb; omega))))
          (try have hdx := box_below hdx hB (Array.getElem?_eq_some_iff.1 hdx).1)
          (try have hrx := box_below hrx hB (Array.getElem?_eq_some_iff.1 hrx).1)
          (try have hkx := box_below hkx hB (Array.getElem?_eq_some_iff.1 hkx).1)
          (try have hix := box_below hix hB (Array.getElem?_eq_some_iff.1 hix).1)
          (try have hjx := box_below hjx hB (Array.getElem?_eq_some_iff.1 hjx).1)
          have HX := Lib.hid (below_then HX.out hB)
          have hz := hB.size
          have pa := hq
          clear hq hB
          (try simp only [treeV])
          refine hK.out _ _ (fun _ => ⟨hdx, hkx⟩) ?_
          clear hK K
          (try simp only [List.getElem_toArray, List.getElem_cons_zero, List.getElem_cons_succ, Act.put, List.setIfInBounds_toArray, List.set_cons_zero, List.set_cons_succ])
          refine wpAnyD_all (rs := [3, 11]) (by kernel_rfl) (by simp) (AllD.cons rfl (by rfl) (fun K hK => ?_) (AllD.cons rfl (by rfl) (fun K hK => ?_) AllD.nil))
          · go_simp
            refine Calls.mono (sxclone_c b _ _ (HBD.out.later HX.out).rd (by omega)) ?_
            rintro e wx ⟨bA1, bn1, bc1, bA2, bn2, bc2, bA3, bn3, bc3, rfl, hq, hB⟩
            (try have HL2 := Lib.hid (slKeepS HL2.out hB (by intro b hb; first | omega | (simp only [false_or] at hb; omega))))
            (try have HS := Lib.hid (HS.out.trans (hB.mono (by omega))))
            (try have HK := Lib.hid (slKeepS HK.out hB (by intro b hb; first | omega | (have := hS b hb; omega))))
            (try have pa := pa.keepS hB (by intro b hb; first | omega | (simp only [false_or] at hb; omega)))
            (try have pb := pb.keepS hB (by intro b hb; first | omega | (simp only [false_or] at hb; omega)))
            (try have pc := pc.keepS hB (by intro b hb; first | omega | (simp only [false_or] at hb; omega)))
            (try have pd := pd.keepS hB (by intro b hb; first | omega | (simp only [false_or] at hb; omega)))
            (try have pe := pe.keepS hB (by intro b hb; first | omega | (simp only [false_or] at hb; omega)))
            (try have HE := Lib.hid (slKeepS HE.out hB (by intro b hb; first | omega | (simp only [false_or] at hb; omega))))
            (try have HL := Lib.hid (slKeepS HL.out hB (by intro b hb; first | omega | (simp only [false_or] at hb; omega))))
            (try have hdx := box_below hdx hB (Array.getElem?_eq_some_iff.1 hdx).1)
            (try have hrx := box_below hrx hB (Array.getElem?_eq_some_iff.1 hrx).1)
            (try have hkx := box_below hkx hB (Array.getElem?_eq_some_iff.1 hkx).1)
            (try have hix := box_below hix hB (Array.getElem?_eq_some_iff.1 hix).1)
            (try have hjx := box_below hjx hB (Array.getElem?_eq_some_iff.1 hjx).1)
            have HX := Lib.hid (below_then HX.out hB)
            have hz := hB.size
            have pb := hq
            clear hq hB
            (try simp only [treeV])
            refine hK.out _ _ (fun _ => ⟨hdx, hkx⟩) ?_
            clear hK K
            (try simp only [List.getElem_toArray, List.getElem_cons_zero, List.getElem_cons_succ, Act.put, List.setIfInBounds_toArray, List.set_cons_zero, List.set_cons_succ])
            refine wpAnyD_all (rs := [7, 11]) (by kernel_rfl) (by simp) (AllD.cons rfl (by rfl) (fun K hK => ?_) (AllD.cons rfl (by rfl) (fun K hK => ?_) AllD.nil))
            · go_simp
              refine Calls.mono (bclone_c s _ _ _ _ (sl_later HSG.out HX.out) (by omega)) ?_
              rintro e wx ⟨vD, rfl, hq, hB⟩
              obtain ⟨dA, dc, rfl, hqs⟩ := hq.sl_all
              have HE0 := Lib.hid hq.sl_in
              (try have HL2 := Lib.hid (slKeepS HL2.out hB (by intro b hb; first | omega | (simp only [false_or] at hb; omega))))
              (try have HS := Lib.hid (HS.out.trans (hB.mono (by omega))))
              (try have HK := Lib.hid (slKeepS HK.out hB (by intro b hb; first | omega | (have := hS b hb; omega))))
              (try have pa := pa.keepS hB (by intro b hb; first | omega | (simp only [false_or] at hb; omega)))
              (try have pb := pb.keepS hB (by intro b hb; first | omega | (simp only [false_or] at hb; omega)))
              (try have pc := pc.keepS hB (by intro b hb; first | omega | (simp only [false_or] at hb; omega)))
              (try have pd := pd.keepS hB (by intro b hb; first | omega | (simp only [false_or] at hb; omega)))
              (try have pe := pe.keepS hB (by intro b hb; first | omega | (simp only [false_or] at hb; omega)))
              (try have HE := Lib.hid (slKeepS HE.out hB (by intro b hb; first | omega | (simp only [false_or] at hb; omega))))
              (try have HL := Lib.hid (slKeepS HL.out hB (by intro b hb; first | omega | (simp only [false_or] at hb; omega))))
              (try have hdx := box_below hdx hB (Array.getElem?_eq_some_iff.1 hdx).1)
              (try have hrx := box_below hrx hB (Array.getElem?_eq_some_iff.1 hrx).1)
              (try have hkx := box_below hkx hB (Array.getElem?_eq_some_iff.1 hkx).1)
              (try have hix := box_below hix hB (Array.getElem?_eq_some_iff.1 hix).1)
              (try have hjx := box_below hjx hB (Array.getElem?_eq_some_iff.1 hjx).1)
              have HX := Lib.hid (below_then HX.out hB)
              have hz := hB.size
              have HE := HE0
              clear hq hqs hB HE0
              refine hK.out _ _ (fun _ => ⟨hdx, hkx⟩) ?_
              clear hK K
              (try simp only [List.getElem_toArray, List.getElem_cons_zero, List.getElem_cons_succ, Act.put, List.setIfInBounds_toArray, List.set_cons_zero, List.set_cons_succ])
              refine wpAnyD_take (i := 8) (v := ?_) rfl (by kernel_rfl) (by kernel_rfl) (by kernel_rfl) (by kernel_rfl) (fun _ _ _ h => by first | exact h | cases h.1) (by rfl) (by kernel_rfl) (Or.inl ⟨by rfl, ?_⟩) (by first | exact HS.out | exact hS | exact hdx | exact ⟨hdx, hkx⟩) ?_
              rotate_left
              · (intro w' hw'; (try dsimp only at hw'); skip; go_simp; first | done | with_reducible rfl)
              (try simp only [List.getElem_toArray, List.getElem_cons_zero, List.getElem_cons_succ, Act.put, List.setIfInBounds_toArray, List.set_cons_zero, List.set_cons_succ])
              refine wpAnyD_all (rs := [9, 11]) (by kernel_rfl) (by simp) (AllD.cons rfl (by rfl) (fun K hK => ?_) (AllD.cons rfl (by rfl) (fun K hK => ?_) AllD.nil))
              · go_simp
                have hB := Below.alloc (Below.refl wx.heap.size wx) (Nat.le_refl _) (.cells #[.bool (atomT tSigned).list, .bool (atomT tSigned).hinted, .slice aA1 an1 ac1, .slice aA2 an2 ac2, .slice aA3 an3 ac3, .bool (b).list, .bool (b).hinted, .slice bA1 bn1 bc1, .slice bA2 bn2 bc2, .slice bA3 bn3 bc3, .bool (keyV false p).list, .bool (keyV false p).hinted, .slice kA1 kn1 kc1, .slice kA2 kn2 kc2, .slice kA3 kn3 kc3, .bool false, .bool false, .slice none 0 0, .slice dA s.length dc, .slice none 0 0] 25)
                have hbn := box_new wx #[.bool (atomT tSigned).list, .bool (atomT tSigned).hinted, .slice aA1 an1 ac1, .slice aA2 an2 ac2, .slice aA3 an3 ac3, .bool (b).list, .bool (b).hinted, .slice bA1 bn1 bc1, .slice bA2 bn2 bc2, .slice bA3 bn3 bc3, .bool (keyV false p).list, .bool (keyV false p).hinted, .slice kA1 kn1 kc1, .slice kA2 kn2 kc2, .slice kA3 kn3 kc3, .bool false, .bool false, .slice none 0 0, .slice dA s.length dc, .slice none 0 0] 25
                (try have HL2 := Lib.hid (slKeepS HL2.out hB (by intro b hb; first | omega | (simp only [false_or] at hb; omega))))
                (try have HS := Lib.hid (HS.out.trans (hB.mono (by omega))))
                (try have HK := Lib.hid (slKeepS HK.out hB (by intro b hb; first | omega | (have := hS b hb; omega))))
                (try have pa := pa.keepS hB (by intro b hb; first | omega | (simp only [false_or] at hb; omega)))
                (try have pb := pb.keepS hB (by intro b hb; first | omega | (simp only [false_or] at hb; omega)))
                (try have pc := pc.keepS hB (by intro b hb; first | omega | (simp only [false_or] at hb; omega)))
                (try have pd := pd.keepS hB (by intro b hb; first | omega | (simp only [false_or] at hb; omega)))
                (try have pe := pe.keepS hB (by intro b hb; first | omega | (simp only [false_or] at hb; omega)))
                (try have HE := Lib.hid (slKeepS HE.out hB (by intro b hb; first | omega | (simp only [false_or] at hb; omega))))
                (try have HL := Lib.hid (slKeepS HL.out hB (by intro b hb; first | omega | (simp only [false_or] at hb; omega))))
                (try have hdx := box_below hdx hB (Array.getElem?_eq_some_iff.1 hdx).1)
                (try have hrx := box_below hrx hB (Array.getElem?_eq_some_iff.1 hrx).1)
                (try have hkx := box_below hkx hB (Array.getElem?_eq_some_iff.1 hkx).1)
                (try have hix := box_below hix hB (Array.getElem?_eq_some_iff.1 hix).1)
                (try have hjx := box_below hjx hB (Array.getElem?_eq_some_iff.1 hjx).1)
                have HX := Lib.hid (below_then HX.out hB)
                have hz := hB.size
                have hbl := (Array.getElem?_eq_some_iff.1 hbn).1
                first
                                | have HL := Lib.hid (sl_trees4 (x := atomT s) (S := fun b => w.heap.size + 2 ≤ b ∧ b ≠ gi ∧ b < _) hbn ⟨by omega, by omega, hbl⟩ (pa.more fun b hb => ⟨by omega, by omega, by omega⟩) (pb.more fun b hb => ⟨by omega, by omega, by omega⟩) (pc.more fun b hb => ⟨by omega, by omega, by omega⟩) ⟨Rep.sl_nil, Rep.sl_more HE.out fun b hb => ⟨by omega, by omega, by omega⟩, Rep.sl_nil⟩)
                                | have HL := Lib.hid (sl_trees4 (x := atomT s) (S := fun b => w.heap.size + 2 ≤ b ∧ b < _) hbn ⟨by omega, hbl⟩ (pa.more fun b hb => ⟨by omega, by omega⟩) (pb.more fun b hb => ⟨by omega, by omega⟩) (pc.more fun b hb => ⟨by omega, by omega⟩) ⟨Rep.sl_nil, Rep.sl_more HE.out fun b hb => ⟨by omega, by omega⟩, Rep.sl_nil⟩)
                clear hB hbn
                generalize hggk : wx.heap.size = gk at *
                generalize wx.alloc (.cells #[.bool (atomT tSigned).list, .bool (atomT tSigned).hinted, .slice aA1 an1 ac1, .slice aA2 an2 ac2, .slice aA3 an3 ac3, .bool (b).list, .bool (b).hinted, .slice bA1 bn1 bc1, .slice bA2 bn2 bc2, .slice bA3 bn3 bc3, .bool (keyV false p).list, .bool (keyV false p).hinted, .slice kA1 kn1 kc1, .slice kA2 kn2 kc2, .slice kA3 kn3 kc3, .bool false, .bool false, .slice none 0 0, .slice dA s.length dc, .slice none 0 0] 25) = wx at *
                refine hK.out _ _ (fun _ => ⟨hdx, hkx⟩) ?_
                clear hK K
                (try simp only [List.getElem_toArray, List.getElem_cons_zero, List.getElem_cons_succ, Act.put, List.setIfInBounds_toArray, List.set_cons_zero, List.set_cons_succ])
                refine wpAnyD_all (rs := [10, 11]) (by kernel_rfl) (by simp) (AllD.cons rfl (by rfl) (fun K hK => ?_) (AllD.cons rfl (by rfl) (fun K hK => ?_) AllD.nil))
                · go_simp
                  refine Calls.mono (listsxS_c _ _ _ _ _ _ (by intro b hb; omega) HL.out (by decide)) ?_
                  rintro e wx ⟨eA1, en1, ec1, eA2, en2, ec2, eA3, en3, ec3, rfl, hq, hB⟩
                  (try have HL2 := Lib.hid (slKeepS HL2.out hB (by intro b hb; first | omega | (simp only [false_or] at hb; omega))))
                  (try have HS := Lib.hid (HS.out.trans (hB.mono (by omega))))
                  (try have HK := Lib.hid (slKeepS HK.out hB (by intro b hb; first | omega | (have := hS b hb; omega))))
                  (try have pa := pa.keepS hB (by intro b hb; first | omega | (simp only [false_or] at hb; omega)))
                  (try have pb := pb.keepS hB (by intro b hb; first | omega | (simp only [false_or] at hb; omega)))
                  (try have pc := pc.keepS hB (by intro b hb; first | omega | (simp only [false_or] at hb; omega)))
                  (try have pd := pd.keepS hB (by intro b hb; first | omega | (simp only [false_or] at hb; omega)))
                  (try have pe := pe.keepS hB (by intro b hb; first | omega | (simp only [false_or] at hb; omega)))
                  (try have HE := Lib.hid (slKeepS HE.out hB (by intro b hb; first | omega | (simp only [false_or] at hb; omega))))
                  (try have HL := Lib.hid (slKeepS HL.out hB (by intro b hb; first | omega | (simp only [false_or] at hb; omega))))
                  (try have hdx := box_below hdx hB (Array.getElem?_eq_some_iff.1 hdx).1)
                  (try have hrx := box_below hrx hB (Array.getElem?_eq_some_iff.1 hrx).1)
                  (try have hkx := box_below hkx hB (Array.getElem?_eq_some_iff.1 hkx).1)
                  (try have hix := box_below hix hB (Array.getElem?_eq_some_iff.1 hix).1)
                  (try have hjx := box_below hjx hB (Array.getElem?_eq_some_iff.1 hjx).1)
                  have HX := Lib.hid (below_then HX.out hB)
                  have hz := hB.size
                  have pe := hq
                  clear hq hB
                  (try simp only [treeV])
                  refine hK.out _ _ (fun _ => ⟨hdx, hkx⟩) ?_
                  clear hK K
                  (try simp only [List.getElem_toArray, List.getElem_cons_zero, List.getElem_cons_succ, Act.put, List.setIfInBounds_toArray, List.set_cons_zero, List.set_cons_succ])
                  refine wpAnyD_all (rs := [11]) (by kernel_rfl) (by simp) (AllD.cons rfl (by rfl) (fun K hK => ?_) AllD.nil)
                  go_simp
                  have hB := Below.alloc (Below.refl wx.heap.size wx) (Nat.le_refl _) (.cells #[.bool false, .bool false, .slice none 0 0, .slice none 0 0, .slice none 0 0] 25)
                  have hin := box_new wx #[.bool false, .bool false, .slice none 0 0, .slice none 0 0, .slice none 0 0] 25
                  (try have HL2 := Lib.hid (slKeepS HL2.out hB (by intro b hb; first | omega | (simp only [false_or] at hb; omega))))
                  (try have HS := Lib.hid (HS.out.trans (hB.mono (by omega))))
                  (try have HK := Lib.hid (slKeepS HK.out hB (by intro b hb; first | omega | (have := hS b hb; omega))))
                  (try have pa := pa.keepS hB (by intro b hb; first | omega | (simp only [false_or] at hb; omega)))
                  (try have pb := pb.keepS hB (by intro b hb; first | omega | (simp only [false_or] at hb; omega)))
                  (try have pc := pc.keepS hB (by intro b hb; first | omega | (simp only [false_or] at hb; omega)))
                  (try have pd := pd.keepS hB (by intro b hb; first | omega | (simp only [false_or] at hb; omega)))
                  (try have pe := pe.keepS hB (by intro b hb; first | omega | (simp only [false_or] at hb; omega)))
                  (try have HE := Lib.hid (slKeepS HE.out hB (by intro b hb; first | omega | (simp only [false_or] at hb; omega))))
                  (try have HL := Lib.hid (slKeepS HL.out hB (by intro b hb; first | omega | (simp only [false_or] at hb; omega))))
                  (try have hdx := box_below hdx hB (Array.getElem?_eq_some_iff.1 hdx).1)
                  (try have hrx := box_below hrx hB (Array.getElem?_eq_some_iff.1 hrx).1)
                  (try have hkx := box_below hkx hB (Array.getElem?_eq_some_iff.1 hkx).1)
                  (try have hix := box_below hix hB (Array.getElem?_eq_some_iff.1 hix).1)
                  (try have hjx := box_below hjx hB (Array.getElem?_eq_some_iff.1 hjx).1)
                  have HX := Lib.hid (below_then HX.out hB)
                  have hz := hB.size
                  have hix := hin
                  have hgl := (Array.getElem?_eq_some_iff.1 hix).1
                  clear hB hin
                  generalize hggi : wx.heap.size = gi at *
                  generalize wx.alloc (.cells #[.bool false, .bool false, .slice none 0 0, .slice none 0 0, .slice none 0 0] 25) = wx at *
                  refine hK.out _ _ (fun _ => ⟨hdx, hkx⟩) ?_
                  clear hK K
                  (try simp only [List.getElem_toArray, List.getElem_cons_zero, List.getElem_cons_succ, Act.put, List.setIfInBounds_toArray, List.set_cons_zero, List.set_cons_succ])
                  refine wpAnyD_all (rs := [12]) (by kernel_rfl) (by simp) (AllD.cons rfl (by rfl) (fun K hK => ?_) AllD.nil)
                  have hr0 := (boxed hix) 0 _ rfl; have hr1 := (boxed hix) 1 _ rfl; have hr2 := (boxed hix) 2 _ rfl; have hr3 := (boxed hix) 3 _ rfl; have hr4 := (boxed hix) 4 _ rfl
                  have hf0 := boxed_frozen hix 0; have hf1 := boxed_frozen hix 1; have hf2 := boxed_frozen hix 2; have hf3 := boxed_frozen hix 3; have hf4 := boxed_frozen hix 4
                  go_simp
                  have hgr := put5_grown wx gi 0 (.bool (listT [atomT tSigned, b, keyV false p, atomT s]).list) (.bool (listT [atomT tSigned, b, keyV false p, atomT s]).hinted) (.slice eA1 en1 ec1) (.slice eA2 en2 ec2) (.slice eA3 en3 ec3)
                  have hnw := put5_box hix 0 (.bool (listT [atomT tSigned, b, keyV false p, atomT s]).list) (.bool (listT [atomT tSigned, b, keyV false p, atomT s]).hinted) (.slice eA1 en1 ec1) (.slice eA2 en2 ec2) (.slice eA3 en3 ec3)
                  clear hr0 hr1 hr2 hr3 hr4 hf0 hf1 hf2 hf3 hf4 hix
                  (try have HL2 := Lib.hid (slFarS HL2.out hgr (by intro b hb; first | omega | (simp only [false_or] at hb; omega))))
                  (try have HK := Lib.hid (slFarS HK.out hgr (by intro b hb; first | omega | (have := hS b hb; omega))))
                  (try have pa := pa.farS hgr (by intro b hb; first | omega | (simp only [false_or] at hb; omega)))
                  (try have pb := pb.farS hgr (by intro b hb; first | omega | (simp only [false_or] at hb; omega)))
                  (try have pc := pc.farS hgr (by intro b hb; first | omega | (simp only [false_or] at hb; omega)))
                  (try have pd := pd.farS hgr (by intro b hb; first | omega | (simp only [false_or] at hb; omega)))
                  (try have pe := pe.farS hgr (by intro b hb; first | omega | (simp only [false_or] at hb; omega)))
                  (try have HE := Lib.hid (slFarS HE.out hgr (by intro b hb; first | omega | (simp only [false_or] at hb; omega))))
                  (try have HL := Lib.hid (slFarS HL.out hgr (by intro b hb; first | omega | (simp only [false_or] at hb; omega))))
                  (try have hdx := box_grown hdx hgr (by simp <;> omega))
                  (try have hrx := box_grown hrx hgr (by simp <;> omega))
                  (try have hkx := box_grown hkx hgr (by simp <;> omega))
                  (try have hjx := box_grown hjx hgr (by simp <;> omega))
                  (try have hix := box_grown hix hgr (by simp <;> omega))
                  have HX := Lib.hid (HX.out.grown hgr (by omega) fun k hk => by injection hk; omega)
                  have hz := hgr.size
                  have hix := hnw
                  clear hgr hnw
                  refine hK.out _ _ (fun h => absurd h (by decide)) ?_
                  clear hK K
                  (try simp only [List.getElem_toArray, List.getElem_cons_zero, List.getElem_cons_succ, Act.put, List.setIfInBounds_toArray, List.set_cons_zero, List.set_cons_succ])
                  generalize hpq : put5 wx gi 0 (.bool (listT [atomT tSigned, b, keyV false p, atomT s]).list) (.bool (listT [atomT tSigned, b, keyV false p, atomT s]).hinted) (.slice eA1 en1 ec1) (.slice eA2 en2 ec2) (.slice eA3 en3 ec3) = w8 at *
                  unfold put5 at hpq
                  rw [hpq]
                  clear hpq
                  refine wpAnyD_done (by kernel_rfl) ?_ _
                  go_wp2_with fail
                  go_meet
                  exact ⟨gi, _, _, _, _, _, _, _, _, _, rfl, pe.more (by intro b hb; omega), hix, hrx, HX.out⟩
                · go_simp
                  have hB := Below.alloc (Below.refl wx.heap.size wx) (Nat.le_refl _) (.cells #[.bool false, .bool false, .slice none 0 0, .slice none 0 0, .slice none 0 0] 25)
                  have hin := box_new wx #[.bool false, .bool false, .slice none 0 0, .slice none 0 0, .slice none 0 0] 25
                  (try have HL2 := Lib.hid (slKeepS HL2.out hB (by intro b hb; first | omega | (simp only [false_or] at hb; omega))))
                  (try have HS := Lib.hid (HS.out.trans (hB.mono (by omega))))
                  (try have HK := Lib.hid (slKeepS HK.out hB (by intro b hb; first | omega | (have := hS b hb; omega))))
                  (try have pa := pa.keepS hB (by intro b hb; first | omega | (simp only [false_or] at hb; omega)))
                  (try have pb := pb.keepS hB (by intro b hb; first | omega | (simp only [false_or] at hb; omega)))
                  (try have pc := pc.keepS hB (by intro b hb; first | omega | (simp only [false_or] at hb; omega)))
                  (try have pd := pd.keepS hB (by intro b hb; first | omega | (simp only [false_or] at hb; omega)))
                  (try have pe := pe.keepS hB (by intro b hb; first | omega | (simp only [false_or] at hb; omega)))
                  (try have HE := Lib.hid (slKeepS HE.out hB (by intro b hb; first | omega | (simp only [false_or] at hb; omega))))
                  (try have HL := Lib.hid (slKeepS HL.out hB (by intro b hb; first | omega | (simp only [false_or] at hb; omega))))
                  (try have hdx := box_below hdx hB (Array.getElem?_eq_some_iff.1 hdx).1)
                  (try have hrx := box_below hrx hB (Array.getElem?_eq_some_iff.1 hrx).1)
                  (try have hkx := box_below hkx hB (Array.getElem?_eq_some_iff.1 hkx).1)
                  (try have hix := box_below hix hB (Array.getElem?_eq_some_iff.1 hix).1)
                  (try have hjx := box_below hjx hB (Array.getElem?_eq_some_iff.1 hjx).1)
                  have HX := Lib.hid (below_then HX.out hB)
                  have hz := hB.size
                  have hix := hin
                  have hgl := (Array.getElem?_eq_some_iff.1 hix).1
                  clear hB hin
                  generalize hggi : wx.heap.size = gi at *
                  generalize wx.alloc (.cells #[.bool false, .bool false, .slice none 0 0, .slice none 0 0, .slice none 0 0] 25) = wx at *
                  refine hK.out _ _ (fun _ => ⟨hdx, hkx⟩) ?_
                  clear hK K
                  (try simp only [List.getElem_toArray, List.getElem_cons_zero, List.getElem_cons_succ, Act.put, List.setIfInBounds_toArray, List.set_cons_zero, List.set_cons_succ])
                  refine wpAnyD_all (rs := [10]) (by kernel_rfl) (by simp) (AllD.cons rfl (by rfl) (fun K hK => ?_) AllD.nil)
                  go_simp
                  refine Calls.mono (listsxS_c _ _ _ _ _ _ (by intro b hb; omega) HL.out (by decide)) ?_
                  rintro e wx ⟨eA1, en1, ec1, eA2, en2, ec2, eA3, en3, ec3, rfl, hq, hB⟩
                  (try have HL2 := Lib.hid (slKeepS HL2.out hB (by intro b hb; first | omega | (simp only [false_or] at hb; omega))))
                  (try have HS := Lib.hid (HS.out.trans (hB.mono (by omega))))
                  (try have HK := Lib.hid (slKeepS HK.out hB (by intro b hb; first | omega | (have := hS b hb; omega))))
                  (try have pa := pa.keepS hB (by intro b hb; first | omega | (simp only [false_or] at hb; omega)))
                  (try have pb := pb.keepS hB (by intro b hb; first | omega | (simp only [false_or] at hb; omega)))
                  (try have pc := pc.keepS hB (by intro b hb; first | omega | (simp only [false_or] at hb; omega)))
                  (try have pd := pd.keepS hB (by intro b hb; first | omega | (simp only [false_or] at hb; omega)))
                  (try have pe := pe.keepS hB (by intro b hb; first | omega | (simp only [false_or] at hb; omega)))
                  (try have HE := Lib.hid (slKeepS HE.out hB (by intro b hb; first | omega | (simp only [false_or] at hb; omega))))
                  (try have HL := Lib.hid (slKeepS HL.out hB (by intro b hb; first | omega | (simp only [false_or] at hb; omega))))
                  (try have hdx := box_below hdx hB (Array.getElem?_eq_some_iff.1 hdx).1)
                  (try have hrx := box_below hrx hB (Array.getElem?_eq_some_iff.1 hrx).1)
                  (try have hkx := box_below hkx hB (Array.getElem?_eq_some_iff.1 hkx).1)
                  (try have hix := box_below hix hB (Array.getElem?_eq_some_iff.1 hix).1)
                  (try have hjx := box_below hjx hB (Array.getElem?_eq_some_iff.1 hjx).1)
                  have HX := Lib.hid (below_then HX.out hB)
                  have hz := hB.size
                  have pe := hq
                  clear hq hB
                  (try simp only [treeV])
                  refine hK.out _ _ (fun _ => ⟨hdx, hkx⟩) ?_
                  clear hK K
                  (try simp only [List.getElem_toArray, List.getElem_cons_zero, List.getElem_cons_succ, Act.put, List.setIfInBounds_toArray, List.set_cons_zero, List.set_cons_succ])
                  refine wpAnyD_all (rs := [12]) (by kernel_rfl) (by simp) (AllD.cons rfl (by rfl) (fun K hK => ?_) AllD.nil)
                  have hr0 := (boxed hix) 0 _ rfl; have hr1 := (boxed hix) 1 _ rfl; have hr2 := (boxed hix) 2 _ rfl; have hr3 := (boxed hix) 3 _ rfl; have hr4 := (boxed hix) 4 _ rfl
                  have hf0 := boxed_frozen hix 0; have hf1 := boxed_frozen hix 1; have hf2 := boxed_frozen hix 2; have hf3 := boxed_frozen hix 3; have hf4 := boxed_frozen hix 4
                  go_simp
                  have hgr := put5_grown wx gi 0 (.bool (listT [atomT tSigned, b, keyV false p, atomT s]).list) (.bool (listT [atomT tSigned, b, keyV false p, atomT s]).hinted) (.slice eA1 en1 ec1) (.slice eA2 en2 ec2) (.slice eA3 en3 ec3)
                  have hnw := put5_box hix 0 (.bool (listT [atomT tSigned, b, keyV false p, atomT s]).list) (.bool (listT [atomT tSigned, b, keyV false p, atomT s]).hinted) (.slice eA1 en1 ec1) (.slice eA2 en2 ec2) (.slice eA3 en3 ec3)
                  clear hr0 hr1 hr2 hr3 hr4 hf0 hf1 hf2 hf3 hf4 hix
                  (try have HL2 := Lib.hid (slFarS HL2.out hgr (by intro b hb; first | omega | (simp only [false_or] at hb; omega))))
                  (try have HK := Lib.hid (slFarS HK.out hgr (by intro b hb; first | omega | (have := hS b hb; omega))))
                  (try have pa := pa.farS hgr (by intro b hb; first | omega | (simp only [false_or] at hb; omega)))
                  (try have pb := pb.farS hgr (by intro b hb; first | omega | (simp only [false_or] at hb; omega)))
                  (try have pc := pc.farS hgr (by intro b hb; first | omega | (simp only [false_or] at hb; omega)))
                  (try have pd := pd.farS hgr (by intro b hb; first | omega | (simp only [false_or] at hb; omega)))
                  (try have pe := pe.farS hgr (by intro b hb; first | omega | (simp only [false_or] at hb; omega)))
                  (try have HE := Lib.hid (slFarS HE.out hgr (by intro b hb; first | omega | (simp only [false_or] at hb; omega))))
                  (try have HL := Lib.hid (slFarS HL.out hgr (by intro b hb; first | omega | (simp only [false_or] at hb; omega))))
                  (try have hdx := box_grown hdx hgr (by simp <;> omega))
                  (try have hrx := box_grown hrx hgr (by simp <;> omega))
                  (try have hkx := box_grown hkx hgr (by simp <;> omega))
                  (try have hjx := box_grown hjx hgr (by simp <;> omega))
                  (try have hix := box_grown hix hgr (by simp <;> omega))
                  have HX := Lib.hid (HX.out.grown hgr (by omega) fun k hk => by injection hk; omega)
                  have hz := hgr.size
                  have hix := hnw
                  clear hgr hnw
                  refine hK.out _ _ (fun h => absurd h (by decide)) ?_
                  clear hK K
                  (try simp only [List.getElem_toArray, List.getElem_cons_zero, List.getElem_cons_succ, Act.put, List.setIfInBounds_toArray, List.set_cons_zero, List.set_cons_succ])
                  generalize hpq : put5 wx gi 0 (.bool (listT [atomT tSigned, b, keyV false p, atomT s]).list) (.bool (listT [atomT tSigned, b, keyV false p, atomT s]).hinted) (.slice eA1 en1 ec1) (.slice eA2 en2 ec2) (.slice eA3 en3 ec3) = w8 at *
                  unfold put5 at hpq
                  rw [hpq]
                  clear hpq
                  refine wpAnyD_done (by kernel_rfl) ?_ _
                  go_wp2_with fail
                  go_meet
                  exact ⟨gi, _, _, _, _, _, _, _, _, _, rfl, pe.more (by intro b hb; omega), hix, hrx, HX.out⟩
              · go_simp
                have hB := Below.alloc (Below.refl wx.heap.size wx) (Nat.le_refl _) (.cells #[.bool false, .bool false, .slice none 0 0, .slice none 0 0, .slice none 0 0] 25)
                have hin := box_new wx #[.bool false, .bool false, .slice none 0 0, .slice none 0 0, .slice none 0 0] 25
                (try have HL2 := Lib.hid (slKeepS HL2.out hB (by intro b hb; first | omega | (simp only [false_or] at hb; omega))))
                (try have HS := Lib.hid (HS.out.trans (hB.mono (by omega))))
                (try have HK := Lib.hid (slKeepS HK.out hB (by intro b hb; first | omega | (have := hS b hb; omega))))
                (try have pa := pa.keepS hB (by intro b hb; first | omega | (simp only [false_or] at hb; omega)))
                (try have pb := pb.keepS hB (by intro b hb; first | omega | (simp only [false_or] at hb; omega)))
                (try have pc := pc.keepS hB (by intro b hb; first | omega | (simp only [false_or] at hb; omega)))
                (try have pd := pd.keepS hB (by intro b hb; first | omega | (simp only [false_or] at hb; omega)))
                (try have pe := pe.keepS hB (by intro b hb; first | omega | (simp only [false_or] at hb; omega)))
                (try have HE := Lib.hid (slKeepS HE.out hB (by intro b hb; first | omega | (simp only [false_or] at hb; omega))))
                (try have HL := Lib.hid (slKeepS HL.out hB (by intro b hb; first | omega | (simp only [false_or] at hb; omega))))
                (try have hdx := box_below hdx hB (Array.getElem?_eq_some_iff.1 hdx).1)
                (try have hrx := box_below hrx hB (Array.getElem?_eq_some_iff.1 hrx).1)
                (try have hkx := box_below hkx hB (Array.getElem?_eq_some_iff.1 hkx).1)
                (try have hix := box_below hix hB (Array.getElem?_eq_some_iff.1 hix).1)
                (try have hjx := box_below hjx hB (Array.getElem?_eq_some_iff.1 hjx).1)
                have HX := Lib.hid (below_then HX.out hB)
                have hz := hB.size
                have hix := hin
                have hgl := (Array.getElem?_eq_some_iff.1 hix).1
                clear hB hin
                generalize hggi : wx.heap.size = gi at *
                generalize wx.alloc (.cells #[.bool false, .bool false, .slice none 0 0, .slice none 0 0, .slice none 0 0] 25) = wx at *
                refine hK.out _ _ (fun _ => ⟨hdx, hkx⟩) ?_
                clear hK K
                (try simp only [List.getElem_toArray, List.getElem_cons_zero, List.getElem_cons_succ, Act.put, List.setIfInBounds_toArray, List.set_cons_zero, List.set_cons_succ])
                refine wpAnyD_all (rs := [9]) (by kernel_rfl) (by simp) (AllD.cons rfl (by rfl) (fun K hK => ?_) AllD.nil)
                go_simp
                have hB := Below.alloc (Below.refl wx.heap.size wx) (Nat.le_refl _) (.cells #[.bool (atomT tSigned).list, .bool (atomT tSigned).hinted, .slice aA1 an1 ac1, .slice aA2 an2 ac2, .slice aA3 an3 ac3, .bool (b).list, .bool (b).hinted, .slice bA1 bn1 bc1, .slice bA2 bn2 bc2, .slice bA3 bn3 bc3, .bool (keyV false p).list, .bool (keyV false p).hinted, .slice kA1 kn1 kc1, .slice kA2 kn2 kc2, .slice kA3 kn3 kc3, .bool false, .bool false, .slice none 0 0, .slice dA s.length dc, .slice none 0 0] 25)
                have hbn := box_new wx #[.bool (atomT tSigned).list, .bool (atomT tSigned).hinted, .slice aA1 an1 ac1, .slice aA2 an2 ac2, .slice aA3 an3 ac3, .bool (b).list, .bool (b).hinted, .slice bA1 bn1 bc1, .slice bA2 bn2 bc2, .slice bA3 bn3 bc3, .bool (keyV false p).list, .bool (keyV false p).hinted, .slice kA1 kn1 kc1, .slice kA2 kn2 kc2, .slice kA3 kn3 kc3, .bool false, .bool false, .slice none 0 0, .slice dA s.length dc, .slice none 0 0] 25
                (try have HL2 := Lib.hid (slKeepS HL2.out hB (by intro b hb; first | omega | (simp only [false_or] at hb; omega))))
                (try have HS := Lib.hid (HS.out.trans (hB.mono (by omega))))
                (try have HK := Lib.hid (slKeepS HK.out hB (by intro b hb; first | omega | (have := hS b hb; omega))))
                (try have pa := pa.keepS hB (by intro b hb; first | omega | (simp only [false_or] at hb; omega)))
                (try have pb := pb.keepS hB (by intro b hb; first | omega | (simp only [false_or] at hb; omega)))
                (try have pc := pc.keepS hB (by intro b hb; first | omega | (simp only [false_or] at hb; omega)))
                (try have pd := pd.keepS hB (by intro b hb; first | omega | (simp only [false_or] at hb; omega)))
                (try have pe := pe.keepS hB (by intro b hb; first | omega | (simp only [false_or] at hb; omega)))
                (try have HE := Lib.hid (slKeepS HE.out hB (by intro b hb; first | omega | (simp only [false_or] at hb; omega))))
                (try have HL := Lib.hid (slKeepS HL.out hB (by intro b hb; first | omega | (simp only [false_or] at hb; omega))))
                (try have hdx := box_below hdx hB (Array.getElem?_eq_some_iff.1 hdx).1)
                (try have hrx := box_below hrx hB (Array.getElem?_eq_some_iff.1 hrx).1)
                (try have hkx := box_below hkx hB (Array.getElem?_eq_some_iff.1 hkx).1)
                (try have hix := box_below hix hB (Array.getElem?_eq_some_iff.1 hix).1)
                (try have hjx := box_below hjx hB (Array.getElem?_eq_some_iff.1 hjx).1)
                have HX := Lib.hid (below_then HX.out hB)
                have hz := hB.size
                have hbl := (Array.getElem?_eq_some_iff.1 hbn).1
                first
                                | have HL := Lib.hid (sl_trees4 (x := atomT s) (S := fun b => w.heap.size + 2 ≤ b ∧ b ≠ gi ∧ b < _) hbn ⟨by omega, by omega, hbl⟩ (pa.more fun b hb => ⟨by omega, by omega, by omega⟩) (pb.more fun b hb => ⟨by omega, by omega, by omega⟩) (pc.more fun b hb => ⟨by omega, by omega, by omega⟩) ⟨Rep.sl_nil, Rep.sl_more HE.out fun b hb => ⟨by omega, by omega, by omega⟩, Rep.sl_nil⟩)
                                | have HL := Lib.hid (sl_trees4 (x := atomT s) (S := fun b => w.heap.size + 2 ≤ b ∧ b < _) hbn ⟨by omega, hbl⟩ (pa.more fun b hb => ⟨by omega, by omega⟩) (pb.more fun b hb => ⟨by omega, by omega⟩) (pc.more fun b hb => ⟨by omega, by omega⟩) ⟨Rep.sl_nil, Rep.sl_more HE.out fun b hb => ⟨by omega, by omega⟩, Rep.sl_nil⟩)
                clear hB hbn
                generalize hggk : wx.heap.size = gk at *
                generalize wx.alloc (.cells #[.bool (atomT tSigned).list, .bool (atomT tSigned).hinted, .slice aA1 an1 ac1, .slice aA2 an2 ac2, .slice aA3 an3 ac3, .bool (b).list, .bool (b).hinted, .slice bA1 bn1 bc1, .slice bA2 bn2 bc2, .slice bA3 bn3 bc3, .bool (keyV false p).list, .bool (keyV false p).hinted, .slice kA1 kn1 kc1, .slice kA2 kn2 kc2, .slice kA3 kn3 kc3, .bool false, .bool false, .slice none 0 0, .slice dA s.length dc, .slice none 0 0] 25) = wx at *
                refine hK.out _ _ (fun _ => ⟨hdx, hkx⟩) ?_
                clear hK K
                (try simp only [List.getElem_toArray, List.getElem_cons_zero, List.getElem_cons_succ, Act.put, List.setIfInBounds_toArray, List.set_cons_zero, List.set_cons_succ])
                refine wpAnyD_all (rs := [10]) (by kernel_rfl) (by simp) (AllD.cons rfl (by rfl) (fun K hK => ?_) AllD.nil)
                go_simp
                refine Calls.mono (listsxS_c _ _ _ _ _ _ (by intro b hb; omega) HL.out (by decide)) ?_
                rintro e wx ⟨eA1, en1, ec1, eA2, en2, ec2, eA3, en3, ec3, rfl, hq, hB⟩
                (try have HL2 := Lib.hid (slKeepS HL2.out hB (by intro b hb; first | omega | (simp only [false_or] at hb; omega))))
                (try have HS := Lib.hid (HS.out.trans (hB.mono (by omega))))
                (try have HK := Lib.hid (slKeepS HK.out hB (by intro b hb; first | omega | (have := hS b hb; omega))))
                (try have pa := pa.keepS hB (by intro b hb; first | omega | (simp only [false_or] at hb; omega)))
                (try have pb := pb.keepS hB (by intro b hb; first | omega | (simp only [false_or] at hb; omega)))
                (try have pc := pc.keepS hB (by intro b hb; first | omega | (simp only [false_or] at hb; omega)))
                (try have pd := pd.keepS hB (by intro b hb; first | omega | (simp only [false_or] at hb; omega)))
                (try have pe := pe.keepS hB (by intro b hb; first | omega | (simp only [false_or] at hb; omega)))
                (try have HE := Lib.hid (slKeepS HE.out hB (by intro b hb; first | omega | (simp only [false_or] at hb; omega))))
                (try have HL := Lib.hid (slKeepS HL.out hB (by intro b hb; first | omega | (simp only [false_or] at hb; omega))))
                (try have hdx := box_below hdx hB (Array.getElem?_eq_some_iff.1 hdx).1)
                (try have hrx := box_below hrx hB (Array.getElem?_eq_some_iff.1 hrx).1)
                (try have hkx := box_below hkx hB (Array.getElem?_eq_some_iff.1 hkx).1)
                (try have hix := box_below hix hB (Array.getElem?_eq_some_iff.1 hix).1)
                (try have hjx := box_below hjx hB (Array.getElem?_eq_some_iff.1 hjx).1)
                have HX := Lib.hid (below_then HX.out hB)
                have hz := hB.size
                have pe := hq
                clear hq hB
                (try simp only [treeV])
                refine hK.out _ _ (fun _ => ⟨hdx, hkx⟩) ?_
                clear hK K
                (try simp only [List.getElem_toArray, List.getElem_cons_zero, List.getElem_cons_succ, Act.put, List.setIfInBounds_toArray, List.set_cons_zero, List.set_cons_succ])
                refine wpAnyD_all (rs := [12]) (by kernel_rfl) (by simp) (AllD.cons rfl (by rfl) (fun K hK => ?_) AllD.nil)
                have hr0 := (boxed hix) 0 _ rfl; have hr1 := (boxed hix) 1 _ rfl; have hr2 := (boxed hix) 2 _ rfl; have hr3 := (boxed hix) 3 _ rfl; have hr4 := (boxed hix) 4 _ rfl
                have hf0 := boxed_frozen hix 0; have hf1 := boxed_frozen hix 1; have hf2 := boxed_frozen hix 2; have hf3 := boxed_frozen hix 3; have hf4 := boxed_frozen hix 4
                go_simp
                have hgr := put5_grown wx gi 0 (.bool (listT [atomT tSigned, b, keyV false p, atomT s]).list) (.bool (listT [atomT tSigned, b, keyV false p, atomT s]).hinted) (.slice eA1 en1 ec1) (.slice eA2 en2 ec2) (.slice eA3 en3 ec3)
                have hnw := put5_box hix 0 (.bool (listT [atomT tSigned, b, keyV false p, atomT s]).list) (.bool (listT [atomT tSigned, b, keyV false p, atomT s]).hinted) (.slice eA1 en1 ec1) (.slice eA2 en2 ec2) (.slice eA3 en3 ec3)
                clear hr0 hr1 hr2 hr3 hr4 hf0 hf1 hf2 hf3 hf4 hix
                (try have HL2 := Lib.hid (slFarS HL2.out hgr (by intro b hb; first | omega | (simp only [false_or] at hb; omega))))
                (try have HK := Lib.hid (slFarS HK.out hgr (by intro b hb; first | omega | (have := hS b hb; omega))))
                (try have pa := pa.farS hgr (by intro b hb; first | omega | (simp only [false_or] at hb; omega)))
                (try have pb := pb.farS hgr (by intro b hb; first | omega | (simp only [false_or] at hb; omega)))
                (try have pc := pc.farS hgr (by intro b hb; first | omega | (simp only [false_or] at hb; omega)))
                (try have pd := pd.farS hgr (by intro b hb; first | omega | (simp only [false_or] at hb; omega)))
                (try have pe := pe.farS hgr (by intro b hb; first | omega | (simp only [false_or] at hb; omega)))
                (try have HE := Lib.hid (slFarS HE.out hgr (by intro b hb; first | omega | (simp only [false_or] at hb; omega))))
                (try have HL := Lib.hid (slFarS HL.out hgr (by intro b hb; first | omega | (simp only [false_or] at hb; omega))))
                (try have hdx := box_grown hdx hgr (by simp <;> omega))
                (try have hrx := box_grown hrx hgr (by simp <;> omega))
                (try have hkx := box_grown hkx hgr (by simp <;> omega))
                (try have hjx := box_grown hjx hgr (by simp <;> omega))
                (try have hix := box_grown hix hgr (by simp <;> omega))
                have HX := Lib.hid (HX.out.grown hgr (by omega) fun k hk => by injection hk; omega)
                have hz := hgr.size
                have hix := hnw
                clear hgr hnw
                refine hK.out _ _ (fun h => absurd h (by decide)) ?_
                clear hK K
                (try simp only [List.getElem_toArray, List.getElem_cons_zero, List.getElem_cons_succ, Act.put, List.setIfInBounds_toArray, List.set_cons_zero, List.set_cons_succ])
                generalize hpq : put5 wx gi 0 (.bool (listT [atomT tSigned, b, keyV false p, atomT s]).list) (.bool (listT [atomT tSigned, b, keyV false p, atomT s]).hinted) (.slice eA1 en1 ec1) (.slice eA2 en2 ec2) (.slice eA3 en3 ec3) = w8 at *
                unfold put5 at hpq
                rw [hpq]
                clear hpq
                refine wpAnyD_done (by kernel_rfl) ?_ _
                go_wp2_with fail
                go_meet
                exact ⟨gi, _, _, _, _, _, _, _, _, _, rfl, pe.more (by intro b hb; omega), hix, hrx, HX.out⟩
            · go_simp
              have hB := Below.alloc (Below.refl wx.heap.size wx) (Nat.le_refl _) (.cells #[.bool false, .bool false, .slice none 0 0, .slice none 0 0, .slice none 0 0] 25)
              have hin := box_new wx #[.bool false, .bool false, .slice none 0 0, .slice none 0 0, .slice none 0 0] 25
              (try have HL2 := Lib.hid (slKeepS HL2.out hB (by intro b hb; first | omega | (simp only [false_or] at hb; omega))))
              (try have HS := Lib.hid (HS.out.trans (hB.mono (by omega))))
              (try have HK := Lib.hid (slKeepS HK.out hB (by intro b hb; first | omega | (have := hS b hb; omega))))
              (try have pa := pa.keepS hB (by intro b hb; first | omega | (simp only [false_or] at hb; omega)))
              (try have pb := pb.keepS hB (by intro b hb; first | omega | (simp only [false_or] at hb; omega)))
              (try have pc := pc.keepS hB (by intro b hb; first | omega | (simp only [false_or] at hb; omega)))
              (try have pd := pd.keepS hB (by intro b hb; first | omega | (simp only [false_or] at hb; omega)))
              (try have pe := pe.keepS hB (by intro b hb; first | omega | (simp only [false_or] at hb; omega)))
              (try have HE := Lib.hid (slKeepS HE.out hB (by intro b hb; first | omega | (simp only [false_or] at hb; omega))))
              (try have HL := Lib.hid (slKeepS HL.out hB (by intro b hb; first | omega | (simp only [false_or] at hb; omega))))
              (try have hdx := box_below hdx hB (Array.getElem?_eq_some_iff.1 hdx).1)
              (try have hrx := box_below hrx hB (Array.getElem?_eq_some_iff.1 hrx).1)
              (try have hkx := box_below hkx hB (Array.getElem?_eq_some_iff.1 hkx).1)
              (try have hix := box_below hix hB (Array.getElem?_eq_some_iff.1 hix).1)
              (try have hjx := box_below hjx hB (Array.getElem?_eq_some_iff.1 hjx).1)
              have HX := Lib.hid (below_then HX.out hB)
              have hz := hB.size
              have hix := hin
              have hgl := (Array.getElem?_eq_some_iff.1 hix).1
              clear hB hin
              generalize hggi : wx.heap.size = gi at *
              generalize wx.alloc (.cells #[.bool false, .bool false, .slice none 0 0, .slice none 0 0, .slice none 0 0] 25) = wx at *
              refine hK.out _ _ (fun _ => ⟨hdx, hkx⟩) ?_
              clear hK K
              (try simp only [List.getElem_toArray, List.getElem_cons_zero, List.getElem_cons_succ, Act.put, List.setIfInBounds_toArray, List.set_cons_zero, List.set_cons_succ])
              refine wpAnyD_all (rs := [7]) (by kernel_rfl) (by simp) (AllD.cons rfl (by rfl) (fun K hK => ?_) AllD.nil)
              go_simp
              refine Calls.mono (bclone_c s _ _ _ _ (sl_later HSG.out HX.out) (by omega)) ?_
              rintro e wx ⟨vD, rfl, hq, hB⟩
              obtain ⟨dA, dc, rfl, hqs⟩ := hq.sl_all
              have HE0 := Lib.hid hq.sl_in
              (try have HL2 := Lib.hid (slKeepS HL2.out hB (by intro b hb; first | omega | (simp only [false_or] at hb; omega))))
              (try have HS := Lib.hid (HS.out.trans (hB.mono (by omega))))
              (try have HK := Lib.hid (slKeepS HK.out hB (by intro b hb; first | omega | (have := hS b hb; omega))))
              (try have pa := pa.keepS hB (by intro b hb; first | omega | (simp only [false_or] at hb; omega)))
              (try have pb := pb.keepS hB (by intro b hb; first | omega | (simp only [false_or] at hb; omega)))
              (try have pc := pc.keepS hB (by intro b hb; first | omega | (simp only [false_or] at hb; omega)))
              (try have pd := pd.keepS hB (by intro b hb; first | omega | (simp only [false_or] at hb; omega)))
              (try have pe := pe.keepS hB (by intro b hb; first | omega | (simp only [false_or] at hb; omega)))
              (try have HE := Lib.hid (slKeepS HE.out hB (by intro b hb; first | omega | (simp only [false_or] at hb; omega))))
              (try have HL := Lib.hid (slKeepS HL.out hB (by intro b hb; first | omega | (simp only [false_or] at hb; omega))))
              (try have hdx := box_below hdx hB (Array.getElem?_eq_some_iff.1 hdx).1)
              (try have hrx := box_below hrx hB (Array.getElem?_eq_some_iff.1 hrx).1)
              (try have hkx := box_below hkx hB (Array.getElem?_eq_some_iff.1 hkx).1)
              (try have hix := box_below hix hB (Array.getElem?_eq_some_iff.1 hix).1)
              (try have hjx := box_below hjx hB (Array.getElem?_eq_some_iff.1 hjx).1)
              have HX := Lib.hid (below_then HX.out hB)
              have hz := hB.size
              have HE := HE0
              clear hq hqs hB HE0
              refine hK.out _ _ (fun _ => ⟨hdx, hkx⟩) ?_
              clear hK K
              (try simp only [List.getElem_toArray, List.getElem_cons_zero, List.getElem_cons_succ, Act.put, List.setIfInBounds_toArray, List.set_cons_zero, List.set_cons_succ])
              refine wpAnyD_take (i := 8) (v := ?_) rfl (by kernel_rfl) (by kernel_rfl) (by kernel_rfl) (by kernel_rfl) (fun _ _ _ h => by first | exact h | cases h.1) (by rfl) (by kernel_rfl) (Or.inl ⟨by rfl, ?_⟩) (by first | exact HS.out | exact hS | exact hdx | exact ⟨hdx, hkx⟩) ?_
              rotate_left
              · (intro w' hw'; (try dsimp only at hw'); skip; go_simp; first | done | with_reducible rfl)
              (try simp only [List.getElem_toArray, List.getElem_cons_zero, List.getElem_cons_succ, Act.put, List.setIfInBounds_toArray, List.set_cons_zero, List.set_cons_succ])
              refine wpAnyD_all (rs := [9]) (by kernel_rfl) (by simp) (AllD.cons rfl (by rfl) (fun K hK => ?_) AllD.nil)
              go_simp
              have hB := Below.alloc (Below.refl wx.heap.size wx) (Nat.le_refl _) (.cells #[.bool (atomT tSigned).list, .bool (atomT tSigned).hinted, .slice aA1 an1 ac1, .slice aA2 an2 ac2, .slice aA3 an3 ac3, .bool (b).list, .bool (b).hinted, .slice bA1 bn1 bc1, .slice bA2 bn2 bc2, .slice bA3 bn3 bc3, .bool (keyV false p).list, .bool (keyV false p).hinted, .slice kA1 kn1 kc1, .slice kA2 kn2 kc2, .slice kA3 kn3 kc3, .bool false, .bool false, .slice none 0 0, .slice dA s.length dc, .slice none 0 0] 25)
              have hbn := box_new wx #[.bool (atomT tSigned).list, .bool (atomT tSigned).hinted, .slice aA1 an1 ac1, .slice aA2 an2 ac2, .slice aA3 an3 ac3, .bool (b).list, .bool (b).hinted, .slice bA1 bn1 bc1, .slice bA2 bn2 bc2, .slice bA3 bn3 bc3, .bool (keyV false p).list, .bool (keyV false p).hinted, .slice kA1 kn1 kc1, .slice kA2 kn2 kc2, .slice kA3 kn3 kc3, .bool false, .bool false, .slice none 0 0, .slice dA s.length dc, .slice none 0 0] 25
              (try have HL2 := Lib.hid (slKeepS HL2.out hB (by intro b hb; first | omega | (simp only [false_or] at hb; omega))))
              (try have HS := Lib.hid (HS.out.trans (hB.mono (by omega))))
              (try have HK := Lib.hid (slKeepS HK.out hB (by intro b hb; first | omega | (have := hS b hb; omega))))
              (try have pa := pa.keepS hB (by intro b hb; first | omega | (simp only [false_or] at hb; omega)))
              (try have pb := pb.keepS hB (by intro b hb; first | omega | (simp only [false_or] at hb; omega)))
              (try have pc := pc.keepS hB (by intro b hb; first | omega | (simp only [false_or] at hb; omega)))
              (try have pd := pd.keepS hB (by intro b hb; first | omega | (simp only [false_or] at hb; omega)))
              (try have pe := pe.keepS hB (by intro b hb; first | omega | (simp only [false_or] at hb; omega)))
              (try have HE := Lib.hid (slKeepS HE.out hB (by intro b hb; first | omega | (simp only [false_or] at hb; omega))))
              (try have HL := Lib.hid (slKeepS HL.out hB (by intro b hb; first | omega | (simp only [false_or] at hb; omega))))
              (try have hdx := box_below hdx hB (Array.getElem?_eq_some_iff.1 hdx).1)
              (try have hrx := box_below hrx hB (Array.getElem?_eq_some_iff.1 hrx).1)
              (try have hkx := box_below hkx hB (Array.getElem?_eq_some_iff.1 hkx).1)
              (try have hix := box_below hix hB (Array.getElem?_eq_some_iff.1 hix).1)
              (try have hjx := box_below hjx hB (Array.getElem?_eq_some_iff.1 hjx).1)
              have HX := Lib.hid (below_then HX.out hB)
              have hz := hB.size
              have hbl := (Array.getElem?_eq_some_iff.1 hbn).1
              first
                            | have HL := Lib.hid (sl_trees4 (x := atomT s) (S := fun b => w.heap.size + 2 ≤ b ∧ b ≠ gi ∧ b < _) hbn ⟨by omega, by omega, hbl⟩ (pa.more fun b hb => ⟨by omega, by omega, by omega⟩) (pb.more fun b hb => ⟨by omega, by omega, by omega⟩) (pc.more fun b hb => ⟨by omega, by omega, by omega⟩) ⟨Rep.sl_nil, Rep.sl_more HE.out fun b hb => ⟨by omega, by omega, by omega⟩, Rep.sl_nil⟩)
                            | have HL := Lib.hid (sl_trees4 (x := atomT s) (S := fun b => w.heap.size + 2 ≤ b ∧ b < _) hbn ⟨by omega, hbl⟩ (pa.more fun b hb => ⟨by omega, by omega⟩) (pb.more fun b hb => ⟨by omega, by omega⟩) (pc.more fun b hb => ⟨by omega, by omega⟩) ⟨Rep.sl_nil, Rep.sl_more HE.out fun b hb => ⟨by omega, by omega⟩, Rep.sl_nil⟩)
              clear hB hbn
              generalize hggk : wx.heap.size = gk at *
              generalize wx.alloc (.cells #[.bool (atomT tSigned).list, .bool (atomT tSigned).hinted, .slice aA1 an1 ac1, .slice aA2 an2 ac2, .slice aA3 an3 ac3, .bool (b).list, .bool (b).hinted, .slice bA1 bn1 bc1, .slice bA2 bn2 bc2, .slice bA3 bn3 bc3, .bool (keyV false p).list, .bool (keyV false p).hinted, .slice kA1 kn1 kc1, .slice kA2 kn2 kc2, .slice kA3 kn3 kc3, .bool false, .bool false, .slice none 0 0, .slice dA s.length dc, .slice none 0 0] 25) = wx at *
              refine hK.out _ _ (fun _ => ⟨hdx, hkx⟩) ?_
              clear hK K
              (try simp only [List.getElem_toArray, List.getElem_cons_zero, List.getElem_cons_succ, Act.put, List.setIfInBounds_toArray, List.set_cons_zero, List.set_cons_succ])
              refine wpAnyD_all (rs := [10]) (by kernel_rfl) (by simp) (AllD.cons rfl (by rfl) (fun K hK => ?_) AllD.nil)
              go_simp
              refine Calls.mono (listsxS_c _ _ _ _ _ _ (by intro b hb; omega) HL.out (by decide)) ?_
              rintro e wx ⟨eA1, en1, ec1, eA2, en2, ec2, eA3, en3, ec3, rfl, hq, hB⟩
              (try have HL2 := Lib.hid (slKeepS HL2.out hB (by intro b hb; first | omega | (simp only [false_or] at hb; omega))))
              (try have HS := Lib.hid (HS.out.trans (hB.mono (by omega))))
              (try have HK := Lib.hid (slKeepS HK.out hB (by intro b hb; first | omega | (have := hS b hb; omega))))
              (try have pa := pa.keepS hB (by intro b hb; first | omega | (simp only [false_or] at hb; omega)))
              (try have pb := pb.keepS hB (by intro b hb; first | omega | (simp only [false_or] at hb; omega)))
              (try have pc := pc.keepS hB (by intro b hb; first | omega | (simp only [false_or] at hb; omega)))
              (try have pd := pd.keepS hB (by intro b hb; first | omega | (simp only [false_or] at hb; omega)))
              (try have pe := pe.keepS hB (by intro b hb; first | omega | (simp only [false_or] at hb; omega)))
              (try have HE := Lib.hid (slKeepS HE.out hB (by intro b hb; first | omega | (simp only [false_or] at hb; omega))))
              (try have HL := Lib.hid (slKeepS HL.out hB (by intro b hb; first | omega | (simp only [false_or] at hb; omega))))
              (try have hdx := box_below hdx hB (Array.getElem?_eq_some_iff.1 hdx).1)
              (try have hrx := box_below hrx hB (Array.getElem?_eq_some_iff.1 hrx).1)
              (try have hkx := box_below hkx hB (Array.getElem?_eq_some_iff.1 hkx).1)
              (try have hix := box_below hix hB (Array.getElem?_eq_some_iff.1 hix).1)
              (try have hjx := box_below hjx hB (Array.getElem?_eq_some_iff.1 hjx).1)
              have HX := Lib.hid (below_then HX.out hB)
              have hz := hB.size
              have pe := hq
              clear hq hB
              (try simp only [treeV])
              refine hK.out _ _ (fun _ => ⟨hdx, hkx⟩) ?_
              clear hK K
              (try simp only [List.getElem_toArray, List.getElem_cons_zero, List.getElem_cons_succ, Act.put, List.setIfInBounds_toArray, List.set_cons_zero, List.set_cons_succ])
              refine wpAnyD_all (rs := [12]) (by kernel_rfl) (by simp) (AllD.cons rfl (by rfl) (fun K hK => ?_) AllD.nil)
              have hr0 := (boxed hix) 0 _ rfl; have hr1 := (boxed hix) 1 _ rfl; have hr2 := (boxed hix) 2 _ rfl; have hr3 := (boxed hix) 3 _ rfl; have hr4 := (boxed hix) 4 _ rfl
              have hf0 := boxed_frozen hix 0; have hf1 := boxed_frozen hix 1; have hf2 := boxed_frozen hix 2; have hf3 := boxed_frozen hix 3; have hf4 := boxed_frozen hix 4
              go_simp
              have hgr := put5_grown wx gi 0 (.bool (listT [atomT tSigned, b, keyV false p, atomT s]).list) (.bool (listT [atomT tSigned, b, keyV false p, atomT s]).hinted) (.slice eA1 en1 ec1) (.slice eA2 en2 ec2) (.slice eA3 en3 ec3)
              have hnw := put5_box hix 0 (.bool (listT [atomT tSigned, b, keyV false p, atomT s]).list) (.bool (listT [atomT tSigned, b, keyV false p, atomT s]).hinted) (.slice eA1 en1 ec1) (.slice eA2 en2 ec2) (.slice eA3 en3 ec3)
              clear hr0 hr1 hr2 hr3 hr4 hf0 hf1 hf2 hf3 hf4 hix
              (try have HL2 := Lib.hid (slFarS HL2.out hgr (by intro b hb; first | omega | (simp only [false_or] at hb; omega))))
              (try have HK := Lib.hid (slFarS HK.out hgr (by intro b hb; first | omega | (have := hS b hb; omega))))
              (try have pa := pa.farS hgr (by intro b hb; first | omega | (simp only [false_or] at hb; omega)))
              (try have pb := pb.farS hgr (by intro b hb; first | omega | (simp only [false_or] at hb; omega)))
              (try have pc := pc.farS hgr (by intro b hb; first | omega | (simp only [false_or] at hb; omega)))
              (try have pd := pd.farS hgr (by intro b hb; first | omega | (simp only [false_or] at hb; omega)))
              (try have pe := pe.farS hgr (by intro b hb; first | omega | (simp only [false_or] at hb; omega)))
              (try have HE := Lib.hid (slFarS HE.out hgr (by intro b hb; first | omega | (simp only [false_or] at hb; omega))))
              (try have HL := Lib.hid (slFarS HL.out hgr (by intro b hb; first | omega | (simp only [false_or] at hb; omega))))
              (try have hdx := box_grown hdx hgr (by simp <;> omega))
              (try have hrx := box_grown hrx hgr (by simp <;> omega))
              (try have hkx := box_grown hkx hgr (by simp <;> omega))
              (try have hjx := box_grown hjx hgr (by simp <;> omega))
              (try have hix := box_grown hix hgr (by simp <;> omega))
              have HX := Lib.hid (HX.out.grown hgr (by omega) fun k hk => by injection hk; omega)
              have hz := hgr.size
              have hix := hnw
              clear hgr hnw
              refine hK.out _ _ (fun h => absurd h (by decide)) ?_
              clear hK K
              (try simp only [List.getElem_toArray, List.getElem_cons_zero, List.getElem_cons_succ, Act.put, List.setIfInBounds_toArray, List.set_cons_zero, List.set_cons_succ])
              generalize hpq : put5 wx gi 0 (.bool (listT [atomT tSigned, b, keyV false p, atomT s]).list) (.bool (listT [atomT tSigned, b, keyV false p, atomT s]).hinted) (.slice eA1 en1 ec1) (.slice eA2 en2 ec2) (.slice eA3 en3 ec3) = w8 at *
              unfold put5 at hpq
              rw [hpq]
              clear hpq
              refine wpAnyD_done (by kernel_rfl) ?_ _
              go_wp2_with fail
              go_meet
              exact ⟨gi, _, _, _, _, _, _, _, _, _, rfl, pe.more (by intro b hb; omega), hix, hrx, HX.out⟩
          · go_simp
            have hB := Below.alloc (Below.refl wx.heap.size wx) (Nat.le_refl _) (.cells #[.bool false, .bool false, .slice none 0 0, .slice none 0 0, .slice none 0 0] 25)
            have hin := box_new wx #[.bool false, .bool false, .slice none 0 0, .slice none 0 0, .slice none 0 0] 25
            (try have HL2 := Lib.hid (slKeepS HL2.out hB (by intro b hb; first | omega | (simp only [false_or] at hb; omega))))
            (try have HS := Lib.hid (HS.out.trans (hB.mono (by omega))))
            (try have HK := Lib.hid (slKeepS HK.out hB (by intro b hb; first | omega | (have := hS b hb; omega))))
            (try have pa := pa.keepS hB (by intro b hb; first | omega | (simp only [false_or] at hb; omega)))
            (try have pb := pb.keepS hB (by intro b hb; first | omega | (simp only [false_or] at hb; omega)))
            (try have pc := pc.keepS hB (by intro b hb; first | omega | (simp only [false_or] at hb; omega)))
            (try have pd := pd.keepS hB (by intro b hb; first | omega | (simp only [false_or] at hb; omega)))
            (try have pe := pe.keepS hB (by intro b hb; first | omega | (simp only [false_or] at hb; omega)))
            (try have HE := Lib.hid (slKeepS HE.out hB (by intro b hb; first | omega | (simp only [false_or] at hb; omega))))
            (try have HL := Lib.hid (slKeepS HL.out hB (by intro b hb; first | omega | (simp only [false_or] at hb; omega))))
            (try have hdx := box_below hdx hB (Array.getElem?_eq_some_iff.1 hdx).1)
            (try have hrx := box_below hrx hB (Array.getElem?_eq_some_iff.1 hrx).1)
            (try have hkx := box_below hkx hB (Array.getElem?_eq_some_iff.1 hkx).1)
            (try have hix := box_below hix hB (Array.getElem?_eq_some_iff.1 hix).1)
            (try have hjx := box_below hjx hB (Array.getElem?_eq_some_iff.1 hjx).1)
            have HX := Lib.hid (below_then HX.out hB)
            have hz := hB.size
            have hix := hin
            have hgl := (Array.getElem?_eq_some_iff.1 hix).1
            clear hB hin
            generalize hggi : wx.heap.size = gi at *
            generalize wx.alloc (.cells #[.bool false, .bool false, .slice none 0 0, .slice none 0 0, .slice none 0 0] 25) = wx at *
            refine hK.out _ _ (fun _ => ⟨hdx, hkx⟩) ?_
            clear hK K
            (try simp only [List.getElem_toArray, List.getElem_cons_zero, List.getElem_cons_succ, Act.put, List.setIfInBounds_toArray, List.set_cons_zero, List.set_cons_succ])
            refine wpAnyD_all (rs := [3]) (by kernel_rfl) (by simp) (AllD.cons rfl (by rfl) (fun K hK => ?_) AllD.nil)
            go_simp
            refine Calls.mono (sxclone_c b _ _ (HBD.out.later HX.out).rd (by omega)) ?_
            rintro e wx ⟨bA1, bn1, bc1, bA2, bn2, bc2, bA3, bn3, bc3, rfl, hq, hB⟩
            (try have HL2 := Lib.hid (slKeepS HL2.out hB (by intro b hb; first | omega | (simp only [false_or] at hb; omega))))
            (try have HS := Lib.hid (HS.out.trans (hB.mono (by omega))))
            (try have HK := Lib.hid (slKeepS HK.out hB (by intro b hb; first | omega | (have := hS b hb; omega))))
            (try have pa := pa.keepS hB (by intro b hb; first | omega | (simp only [false_or] at hb; omega)))
            (try have pb := pb.keepS hB (by intro b hb; first | omega | (simp only [false_or] at hb; omega)))
            (try have pc := pc.keepS hB (by intro b hb; first | omega | (simp only [false_or] at hb; omega)))
            (try have pd := pd.keepS hB (by intro b hb; first | omega | (simp only [false_or] at hb; omega)))
            (try have pe := pe.keepS hB (by intro b hb; first | omega | (simp only [false_or] at hb; omega)))
            (try have HE := Lib.hid (slKeepS HE.out hB (by intro b hb; first | omega | (simp only [false_or] at hb; omega))))
            (try have HL := Lib.hid (slKeepS HL.out hB (by intro b hb; first | omega | (simp only [false_or] at hb; omega))))
            (try have hdx := box_below hdx hB (Array.getElem?_eq_some_iff.1 hdx).1)
            (try have hrx := box_below hrx hB (Array.getElem?_eq_some_iff.1 hrx).1)
            (try have hkx := box_below hkx hB (Array.getElem?_eq_some_iff.1 hkx).1)
            (try have hix := box_below hix hB (Array.getElem?_eq_some_iff.1 hix).1)
            (try have hjx := box_below hjx hB (Array.getElem?_eq_some_iff.1 hjx).1)
            have HX := Lib.hid (below_then HX.out hB)
            have hz := hB.size
            have pb := hq
            clear hq hB
            (try simp only [treeV])
            refine hK.out _ _ (fun _ => ⟨hdx, hkx⟩) ?_
            clear hK K
            (try simp only [List.getElem_toArray, List.getElem_cons_zero, List.getElem_cons_succ, Act.put, List.setIfInBounds_toArray, List.set_cons_zero, List.set_cons_succ])
            refine wpAnyD_all (rs := [7]) (by kernel_rfl) (by simp) (AllD.cons rfl (by rfl) (fun K hK => ?_) AllD.nil)
            go_simp
            refine Calls.mono (bclone_c s _ _ _ _ (sl_later HSG.out HX.out) (by omega)) ?_
            rintro e wx ⟨vD, rfl, hq, hB⟩
            obtain ⟨dA, dc, rfl, hqs⟩ := hq.sl_all
            have HE0 := Lib.hid hq.sl_in
            (try have HL2 := Lib.hid (slKeepS HL2.out hB (by intro b hb; first | omega | (simp only [false_or] at hb; omega))))
            (try have HS := Lib.hid (HS.out.trans (hB.mono (by omega))))
            (try have HK := Lib.hid (slKeepS HK.out hB (by intro b hb; first | omega | (have := hS b hb; omega))))
            (try have pa := pa.keepS hB (by intro b hb; first | omega | (simp only [false_or] at hb; omega)))
            (try have pb := pb.keepS hB (by intro b hb; first | omega | (simp only [false_or] at hb; omega)))
            (try have pc := pc.keepS hB (by intro b hb; first | omega | (simp only [false_or] at hb; omega)))
            (try have pd := pd.keepS hB (by intro b hb; first | omega | (simp only [false_or] at hb; omega)))
            (try have pe := pe.keepS hB (by intro b hb; first | omega | (simp only [false_or] at hb; omega)))
            (try have HE := Lib.hid (slKeepS HE.out hB (by intro b hb; first | omega | (simp only [false_or] at hb; omega))))
            (try have HL := Lib.hid (slKeepS HL.out hB (by intro b hb; first | omega | (simp only [false_or] at hb; omega))))
            (try have hdx := box_below hdx hB (Array.getElem?_eq_some_iff.1 hdx).1)
            (try have hrx := box_below hrx hB (Array.getElem?_eq_some_iff.1 hrx).1)
            (try have hkx := box_below hkx hB (Array.getElem?_eq_some_iff.1 hkx).1)
            (try have hix := box_below hix hB (Array.getElem?_eq_some_iff.1 hix).1)
            (try have hjx := box_below hjx hB (Array.getElem?_eq_some_iff.1 hjx).1)
            have HX := Lib.hid (below_then HX.out hB)
            have hz := hB.size
            have HE := HE0
            clear hq hqs hB HE0
            refine hK.out _ _ (fun _ => ⟨hdx, hkx⟩) ?_
            clear hK K
            (try simp only [List.getElem_toArray, List.getElem_cons_zero, List.getElem_cons_succ, Act.put, List.setIfInBounds_toArray, List.set_cons_zero, List.set_cons_succ])
            refine wpAnyD_take (i := 8) (v := ?_) rfl (by kernel_rfl) (by kernel_rfl) (by kernel_rfl) (by kernel_rfl) (fun _ _ _ h => by first | exact h | cases h.1) (by rfl) (by kernel_rfl) (Or.inl ⟨by rfl, ?_⟩) (by first | exact HS.out | exact hS | exact hdx | exact ⟨hdx, hkx⟩) ?_
            rotate_left
            · (intro w' hw'; (try dsimp only at hw'); skip; go_simp; first | done | with_reducible rfl)
            (try simp only [List.getElem_toArray, List.getElem_cons_zero, List.getElem_cons_succ, Act.put, List.setIfInBounds_toArray, List.set_cons_zero, List.set_cons_succ])
            refine wpAnyD_all (rs := [9]) (by kernel_rfl) (by simp) (AllD.cons rfl (by rfl) (fun K hK => ?_) AllD.nil)
            go_simp
            have hB := Below.alloc (Below.refl wx.heap.size wx) (Nat.le_refl _) (.cells #[.bool (atomT tSigned).list, .bool (atomT tSigned).hinted, .slice aA1 an1 ac1, .slice aA2 an2 ac2, .slice aA3 an3 ac3, .bool (b).list, .bool (b).hinted, .slice bA1 bn1 bc1, .slice bA2 bn2 bc2, .slice bA3 bn3 bc3, .bool (keyV false p).list, .bool (keyV false p).hinted, .slice kA1 kn1 kc1, .slice kA2 kn2 kc2, .slice kA3 kn3 kc3, .bool false, .bool false, .slice none 0 0, .slice dA s.length dc, .slice none 0 0] 25)
            have hbn := box_new wx #[.bool (atomT tSigned).list, .bool (atomT tSigned).hinted, .slice aA1 an1 ac1, .slice aA2 an2 ac2, .slice aA3 an3 ac3, .bool (b).list, .bool (b).hinted, .slice bA1 bn1 bc1, .slice bA2 bn2 bc2, .slice bA3 bn3 bc3, .bool (keyV false p).list, .bool (keyV false p).hinted, .slice kA1 kn1 kc1, .slice kA2 kn2 kc2, .slice kA3 kn3 kc3, .bool false, .bool false, .slice none 0 0, .slice dA s.length dc, .slice none 0 0] 25
            (try have HL2 := Lib.hid (slKeepS HL2.out hB (by intro b hb; first | omega | (simp only [false_or] at hb; omega))))
            (try have HS := Lib.hid (HS.out.trans (hB.mono (by omega))))
            (try have HK := Lib.hid (slKeepS HK.out hB (by intro b hb; first | omega | (have := hS b hb; omega))))
            (try have pa := pa.keepS hB (by intro b hb; first | omega | (simp only [false_or] at hb; omega)))
            (try have pb := pb.keepS hB (by intro b hb; first | omega | (simp only [false_or] at hb; omega)))
            (try have pc := pc.keepS hB (by intro b hb; first | omega | (simp only [false_or] at hb; omega)))
            (try have pd := pd.keepS hB (by intro b hb; first | omega | (simp only [false_or] at hb; omega)))
            (try have pe := pe.keepS hB (by intro b hb; first | omega | (simp only [false_or] at hb; omega)))
            (try have HE := Lib.hid (slKeepS HE.out hB (by intro b hb; first | omega | (simp only [false_or] at hb; omega))))
            (try have HL := Lib.hid (slKeepS HL.out hB (by intro b hb; first | omega | (simp only [false_or] at hb; omega))))
            (try have hdx := box_below hdx hB (Array.getElem?_eq_some_iff.1 hdx).1)
            (try have hrx := box_below hrx hB (Array.getElem?_eq_some_iff.1 hrx).1)
            (try have hkx := box_below hkx hB (Array.getElem?_eq_some_iff.1 hkx).1)
            (try have hix := box_below hix hB (Array.getElem?_eq_some_iff.1 hix).1)
            (try have hjx := box_below hjx hB (Array.getElem?_eq_some_iff.1 hjx).1)
            have HX := Lib.hid (below_then HX.out hB)
            have hz := hB.size
            have hbl := (Array.getElem?_eq_some_iff.1 hbn).1
            first
                        | have HL := Lib.hid (sl_trees4 (x := atomT s) (S := fun b => w.heap.size + 2 ≤ b ∧ b ≠ gi ∧ b < _) hbn ⟨by omega, by omega, hbl⟩ (pa.more fun b hb => ⟨by omega, by omega, by omega⟩) (pb.more fun b hb => ⟨by omega, by omega, by omega⟩) (pc.more fun b hb => ⟨by omega, by omega, by omega⟩) ⟨Rep.sl_nil, Rep.sl_more HE.out fun b hb => ⟨by omega, by omega, by omega⟩, Rep.sl_nil⟩)
                        | have HL := Lib.hid (sl_trees4 (x := atomT s) (S := fun b => w.heap.size + 2 ≤ b ∧ b < _) hbn ⟨by omega, hbl⟩ (pa.more fun b hb => ⟨by omega, by omega⟩) (pb.more fun b hb => ⟨by omega, by omega⟩) (pc.more fun b hb => ⟨by omega, by omega⟩) ⟨Rep.sl_nil, Rep.sl_more HE.out fun b hb => ⟨by omega, by omega⟩, Rep.sl_nil⟩)
            clear hB hbn
            generalize hggk : wx.heap.size = gk at *
            generalize wx.alloc (.cells #[.bool (atomT tSigned).list, .bool (atomT tSigned).hinted, .slice aA1 an1 ac1, .slice aA2 an2 ac2, .slice aA3 an3 ac3, .bool (b).list, .bool (b).hinted, .slice bA1 bn1 bc1, .slice bA2 bn2 bc2, .slice bA3 bn3 bc3, .bool (keyV false p).list, .bool (keyV false p).hinted, .slice kA1 kn1 kc1, .slice kA2 kn2 kc2, .slice kA3 kn3 kc3, .bool false, .bool false, .slice none 0 0, .slice dA s.length dc, .slice none 0 0] 25) = wx at *
            refine hK.out _ _ (fun _ => ⟨hdx, hkx⟩) ?_
            clear hK K
            (try simp only [List.getElem_toArray, List.getElem_cons_zero, List.getElem_cons_succ, Act.put, List.setIfInBounds_toArray, List.set_cons_zero, List.set_cons_succ])
            refine wpAnyD_all (rs := [10]) (by kernel_rfl) (by simp) (AllD.cons rfl (by rfl) (fun K hK => ?_) AllD.nil)
            go_simp
            refine Calls.mono (listsxS_c _ _ _ _ _ _ (by intro b hb; omega) HL.out (by decide)) ?_
            rintro e wx ⟨eA1, en1, ec1, eA2, en2, ec2, eA3, en3, ec3, rfl, hq, hB⟩
            (try have HL2 := Lib.hid (slKeepS HL2.out hB (by intro b hb; first | omega | (simp only [false_or] at hb; omega))))
            (try have HS := Lib.hid (HS.out.trans (hB.mono (by omega))))
            (try have HK := Lib.hid (slKeepS HK.out hB (by intro b hb; first | omega | (have := hS b hb; omega))))
            (try have pa := pa.keepS hB (by intro b hb; first | omega | (simp only [false_or] at hb; omega)))
            (try have pb := pb.keepS hB (by intro b hb; first | omega | (simp only [false_or] at hb; omega)))
            (try have pc := pc.keepS hB (by intro b hb; first | omega | (simp only [false_or] at hb; omega)))
            (try have pd := pd.keepS hB (by intro b hb; first | omega | (simp only [false_or] at hb; omega)))
            (try have pe := pe.keepS hB (by intro b hb; first | omega | (simp only [false_or] at hb; omega)))
            (try have HE := Lib.hid (slKeepS HE.out hB (by intro b hb; first | omega | (simp only [false_or] at hb; omega))))
            (try have HL := Lib.hid (slKeepS HL.out hB (by intro b hb; first | omega | (simp only [false_or] at hb; omega))))
            (try have hdx := box_below hdx hB (Array.getElem?_eq_some_iff.1 hdx).1)
            (try have hrx := box_below hrx hB (Array.getElem?_eq_some_iff.1 hrx).1)
            (try have hkx := box_below hkx hB (Array.getElem?_eq_some_iff.1 hkx).1)
            (try have hix := box_below hix hB (Array.getElem?_eq_some_iff.1 hix).1)
            (try have hjx := box_below hjx hB (Array.getElem?_eq_some_iff.1 hjx).1)
            have HX := Lib.hid (below_then HX.out hB)
            have hz := hB.size
            have pe := hq
            clear hq hB
            (try simp only [treeV])
            refine hK.out _ _ (fun _ => ⟨hdx, hkx⟩) ?_
            clear hK K
            (try simp only [List.getElem_toArray, List.getElem_cons_zero, List.getElem_cons_succ, Act.put, List.setIfInBounds_toArray, List.set_cons_zero, List.set_cons_succ])
            refine wpAnyD_all (rs := [12]) (by kernel_rfl) (by simp) (AllD.cons rfl (by rfl) (fun K hK => ?_) AllD.nil)
            have hr0 := (boxed hix) 0 _ rfl; have hr1 := (boxed hix) 1 _ rfl; have hr2 := (boxed hix) 2 _ rfl; have hr3 := (boxed hix) 3 _ rfl; have hr4 := (boxed hix) 4 _ rfl
            have hf0 := boxed_frozen hix 0; have hf1 := boxed_frozen hix 1; have hf2 := boxed_frozen hix 2; have hf3 := boxed_frozen hix 3; have hf4 := boxed_frozen hix 4
            go_simp
            have hgr := put5_grown wx gi 0 (.bool (listT [atomT tSigned, b, keyV false p, atomT s]).list) (.bool (listT [atomT tSigned, b, keyV false p, atomT s]).hinted) (.slice eA1 en1 ec1) (.slice eA2 en2 ec2) (.slice eA3 en3 ec3)
            have hnw := put5_box hix 0 (.bool (listT [atomT tSigned, b, keyV false p, atomT s]).list) (.bool (listT [atomT tSigned, b, keyV false p, atomT s]).hinted) (.slice eA1 en1 ec1) (.slice eA2 en2 ec2) (.slice eA3 en3 ec3)
            clear hr0 hr1 hr2 hr3 hr4 hf0 hf1 hf2 hf3 hf4 hix
            (try have HL2 := Lib.hid (slFarS HL2.out hgr (by intro b hb; first | omega | (simp only [false_or] at hb; omega))))
            (try have HK := Lib.hid (slFarS HK.out hgr (by intro b hb; first | omega | (have := hS b hb; omega))))
            (try have pa := pa.farS hgr (by intro b hb; first | omega | (simp only [false_or] at hb; omega)))
            (try have pb := pb.farS hgr (by intro b hb; first | omega | (simp only [false_or] at hb; omega)))
            (try have pc := pc.farS hgr (by intro b hb; first | omega | (simp only [false_or] at hb; omega)))
            (try have pd := pd.farS hgr (by intro b hb; first | omega | (simp only [false_or] at hb; omega)))
            (try have pe := pe.farS hgr (by intro b hb; first | omega | (simp only [false_or] at hb; omega)))
            (try have HE := Lib.hid (slFarS HE.out hgr (by intro b hb; first | omega | (simp only [false_or] at hb; omega))))
            (try have HL := Lib.hid (slFarS HL.out hgr (by intro b hb; first | omega | (simp only [false_or] at hb; omega))))
            (try have hdx := box_grown hdx hgr (by simp <;> omega))
            (try have hrx := box_grown hrx hgr (by simp <;> omega))
            (try have hkx := box_grown hkx hgr (by simp <;> omega))
            (try have hjx := box_grown hjx hgr (by simp <;> omega))
            (try have hix := box_grown hix hgr (by simp <;> omega))
            have HX := Lib.hid (HX.out.grown hgr (by omega) fun k hk => by injection hk; omega)
            have hz := hgr.size
            have hix := hnw
            clear hgr hnw
            refine hK.out _ _ (fun h => absurd h (by decide)) ?_
            clear hK K
            (try simp only [List.getElem_toArray, List.getElem_cons_zero, List.getElem_cons_succ, Act.put, List.setIfInBounds_toArray, List.set_cons_zero, List.set_cons_succ])
            generalize hpq : put5 wx gi 0 (.bool (listT [atomT tSigned, b, keyV false p, atomT s]).list) (.bool (listT [atomT tSigned, b, keyV false p, atomT s]).hinted) (.slice eA1 en1 ec1) (.slice eA2 en2 ec2) (.slice eA3 en3 ec3) = w8 at *
            unfold put5 at hpq
            rw [hpq]
            clear hpq
            refine wpAnyD_done (by kernel_rfl) ?_ _
            go_wp2_with fail
            go_meet
            exact ⟨gi, _, _, _, _, _, _, _, _, _, rfl, pe.more (by intro b hb; omega), hix, hrx, HX.out⟩
        · go_simp
          have hB := Below.alloc (Below.refl wx.heap.size wx) (Nat.le_refl _) (.cells #[.bool false, .bool false, .slice none 0 0, .slice none 0 0, .slice none 0 0] 25)
          have hin := box_new wx #[.bool false, .bool false, .slice none 0 0, .slice none 0 0, .slice none 0 0] 25
          (try have HL2 := Lib.hid (slKeepS HL2.out hB (by intro b hb; first | omega | (simp only [false_or] at hb; omega))))
          (try have HS := Lib.hid (HS.out.trans (hB.mono (by omega))))
          (try have HK := Lib.hid (slKeepS HK.out hB (by intro b hb; first | omega | (have := hS b hb; omega))))
          (try have pa := pa.keepS hB (by intro b hb; first | omega | (simp only [false_or] at hb; omega)))
          (try have pb := pb.keepS hB (by intro b hb; first | omega | (simp only [false_or] at hb; omega)))
          (try have pc := pc.keepS hB (by intro b hb; first | omega | (simp only [false_or] at hb; omega)))
          (try have pd := pd.keepS hB (by intro b hb; first | omega | (simp only [false_or] at hb; omega)))
          (try have pe := pe.keepS hB (by intro b hb; first | omega | (simp only [false_or] at hb; omega)))
          (try have HE := Lib.hid (slKeepS HE.out hB (by intro b hb; first | omega | (simp only [false_or] at hb; omega))))
          (try have HL := Lib.hid (slKeepS HL.out hB (by intro b hb; first | omega | (simp only [false_or] at hb; omega))))
          (try have hdx := box_below hdx hB (Array.getElem?_eq_some_iff.1 hdx).1)
          (try have hrx := box_below hrx hB (Array.getElem?_eq_some_iff.1 hrx).1)
          (try have hkx := box_below hkx hB (Array.getElem?_eq_some_iff.1 hkx).1)
          (try have hix := box_below hix hB (Array.getElem?_eq_some_iff.1 hix).1)
          (try have hjx := box_below hjx hB (Array.getElem?_eq_some_iff.1 hjx).1)
          have HX := Lib.hid (below_then HX.out hB)
          have hz := hB.size
          have hix := hin
          have hgl := (Array.getElem?_eq_some_iff.1 hix).1
          clear hB hin
          generalize hggi : wx.heap.size = gi at *
          generalize wx.alloc (.cells #[.bool false, .bool false, .slice none 0 0, .slice none 0 0, .slice none 0 0] 25) = wx at *
          refine hK.out _ _ (fun _ => ⟨hdx, hkx⟩) ?_
          clear hK K
          (try simp only [List.getElem_toArray, List.getElem_cons_zero, List.getElem_cons_succ, Act.put, List.setIfInBounds_toArray, List.set_cons_zero, List.set_cons_succ])
          refine wpAnyD_all (rs := [0]) (by kernel_rfl) (by simp) (AllD.cons rfl (by rfl) (fun K hK => ?_) AllD.nil)
          go_simp
          refine Calls.mono (atomsx_c tSigned _ _ (Nat.le_refl _) (by decide)) ?_
          rintro e wx ⟨aA1, an1, ac1, aA2, an2, ac2, aA3, an3, ac3, rfl, hq, hB⟩
          (try have HL2 := Lib.hid (slKeepS HL2.out hB (by intro b hb; first | omega | (simp only [false_or] at hb; omega))))
          (try have HS := Lib.hid (HS.out.trans (hB.mono (by omega))))
          (try have HK := Lib.hid (slKeepS HK.out hB (by intro b hb; first | omega | (have := hS b hb; omega))))
          (try have pa := pa.keepS hB (by intro b hb; first | omega | (simp only [false_or] at hb; omega)))
          (try have pb := pb.keepS hB (by intro b hb; first | omega | (simp only [false_or] at hb; omega)))
          (try have pc := pc.keepS hB (by intro b hb; first | omega | (simp only [false_or] at hb; omega)))
          (try have pd := pd.keepS hB (by intro b hb; first | omega | (simp only [false_or] at hb; omega)))
          (try have pe := pe.keepS hB (by intro b hb; first | omega | (simp only [false_or] at hb; omega)))
          (try have HE := Lib.hid (slKeepS HE.out hB (by intro b hb; first | omega | (simp only [false_or] at hb; omega))))
          (try have HL := Lib.hid (slKeepS HL.out hB (by intro b hb; first | omega | (simp only [false_or] at hb; omega))))
          (try have hdx := box_below hdx hB (Array.getElem?_eq_some_iff.1 hdx).1)
          (try have hrx := box_below hrx hB (Array.getElem?_eq_some_iff.1 hrx).1)
          (try have hkx := box_below hkx hB (Array.getElem?_eq_some_iff.1 hkx).1)
          (try have hix := box_below hix hB (Array.getElem?_eq_some_iff.1 hix).1)
          (try have hjx := box_below hjx hB (Array.getElem?_eq_some_iff.1 hjx).1)
          have HX := Lib.hid (below_then HX.out hB)
          have hz := hB.size
          have pa := hq
          clear hq hB
          (try simp only [treeV])
          refine hK.out _ _ (fun _ => ⟨hdx, hkx⟩) ?_
          clear hK K
          (try simp only [List.getElem_toArray, List.getElem_cons_zero, List.getElem_cons_succ, Act.put, List.setIfInBounds_toArray, List.set_cons_zero, List.set_cons_succ])
          refine wpAnyD_all (rs := [3]) (by kernel_rfl) (by simp) (AllD.cons rfl (by rfl) (fun K hK => ?_) AllD.nil)
          go_simp
          refine Calls.mono (sxclone_c b _ _ (HBD.out.later HX.out).rd (by omega)) ?_
          rintro e wx ⟨bA1, bn1, bc1, bA2, bn2, bc2, bA3, bn3, bc3, rfl, hq, hB⟩
          (try have HL2 := Lib.hid (slKeepS HL2.out hB (by intro b hb; first | omega | (simp only [false_or] at hb; omega))))
          (try have HS := Lib.hid (HS.out.trans (hB.mono (by omega))))
          (try have HK := Lib.hid (slKeepS HK.out hB (by intro b hb; first | omega | (have := hS b hb; omega))))
          (try have pa := pa.keepS hB (by intro b hb; first | omega | (simp only [false_or] at hb; omega)))
          (try have pb := pb.keepS hB (by intro b hb; first | omega | (simp only [false_or] at hb; omega)))
          (try have pc := pc.keepS hB (by intro b hb; first | omega | (simp only [false_or] at hb; omega)))
          (try have pd := pd.keepS hB (by intro b hb; first | omega | (simp only [false_or] at hb; omega)))
          (try have pe := pe.keepS hB (by intro b hb; first | omega | (simp only [false_or] at hb; omega)))
          (try have HE := Lib.hid (slKeepS HE.out hB (by intro b hb; first | omega | (simp only [false_or] at hb; omega))))
          (try have HL := Lib.hid (slKeepS HL.out hB (by intro b hb; first | omega | (simp only [false_or] at hb; omega))))
          (try have hdx := box_below hdx hB (Array.getElem?_eq_some_iff.1 hdx).1)
          (try have hrx := box_below hrx hB (Array.getElem?_eq_some_iff.1 hrx).1)
          (try have hkx := box_below hkx hB (Array.getElem?_eq_some_iff.1 hkx).1)
          (try have hix := box_below hix hB (Array.getElem?_eq_some_iff.1 hix).1)
          (try have hjx := box_below hjx hB (Array.getElem?_eq_some_iff.1 hjx).1)
          have HX := Lib.hid (below_then HX.out hB)
          have hz := hB.size
          have pb := hq
          clear hq hB
          (try simp only [treeV])
          refine hK.out _ _ (fun _ => ⟨hdx, hkx⟩) ?_
          clear hK K
          (try simp only [List.getElem_toArray, List.getElem_cons_zero, List.getElem_cons_succ, Act.put, List.setIfInBounds_toArray, List.set_cons_zero, List.set_cons_succ])
          refine wpAnyD_all (rs := [7]) (by kernel_rfl) (by simp) (AllD.cons rfl (by rfl) (fun K hK => ?_) AllD.nil)
          go_simp
          refine Calls.mono (bclone_c s _ _ _ _ (sl_later HSG.out HX.out) (by omega)) ?_
          rintro e wx ⟨vD, rfl, hq, hB⟩
          obtain ⟨dA, dc, rfl, hqs⟩ := hq.sl_all
          have HE0 := Lib.hid hq.sl_in
          (try have HL2 := Lib.hid (slKeepS HL2.out hB (by intro b hb; first | omega | (simp only [false_or] at hb; omega))))
          (try have HS := Lib.hid (HS.out.trans (hB.mono (by omega))))
          (try have HK := Lib.hid (slKeepS HK.out hB (by intro b hb; first | omega | (have := hS b hb; omega))))
          (try have pa := pa.keepS hB (by intro b hb; first | omega | (simp only [false_or] at hb; omega)))
          (try have pb := pb.keepS hB (by intro b hb; first | omega | (simp only [false_or] at hb; omega)))
          (try have pc := pc.keepS hB (by intro b hb; first | omega | (simp only [false_or] at hb; omega)))
          (try have pd := pd.keepS hB (by intro b hb; first | omega | (simp only [false_or] at hb; omega)))
          (try have pe := pe.keepS hB (by intro b hb; first | omega | (simp only [false_or] at hb; omega)))
          (try have HE := Lib.hid (slKeepS HE.out hB (by intro b hb; first | omega | (simp only [false_or] at hb; omega))))
          (try have HL := Lib.hid (slKeepS HL.out hB (by intro b hb; first | omega | (simp only [false_or] at hb; omega))))
          (try have hdx := box_below hdx hB (Array.getElem?_eq_some_iff.1 hdx).1)
          (try have hrx := box_below hrx hB (Array.getElem?_eq_some_iff.1 hrx).1)
          (try have hkx := box_below hkx hB (Array.getElem?_eq_some_iff.1 hkx).1)
          (try have hix := box_below hix hB (Array.getElem?_eq_some_iff.1 hix).1)
          (try have hjx := box_below hjx hB (Array.getElem?_eq_some_iff.1 hjx).1)
          have HX := Lib.hid (below_then HX.out hB)
          have hz := hB.size
          have HE := HE0
          clear hq hqs hB HE0
          refine hK.out _ _ (fun _ => ⟨hdx, hkx⟩) ?_
          clear hK K
          (try simp only [List.getElem_toArray, List.getElem_cons_zero, List.getElem_cons_succ, Act.put, List.setIfInBounds_toArray, List.set_cons_zero, List.set_cons_succ])
          refine wpAnyD_take (i := 8) (v := ?_) rfl (by kernel_rfl) (by kernel_rfl) (by kernel_rfl) (by kernel_rfl) (fun _ _ _ h => by first | exact h | cases h.1) (by rfl) (by kernel_rfl) (Or.inl ⟨by rfl, ?_⟩) (by first | exact HS.out | exact hS | exact hdx | exact ⟨hdx, hkx⟩) ?_
          rotate_left
          · (intro w' hw'; (try dsimp only at hw'); skip; go_simp; first | done | with_reducible rfl)
          (try simp only [List.getElem_toArray, List.getElem_cons_zero, List.getElem_cons_succ, Act.put, List.setIfInBounds_toArray, List.set_cons_zero, List.set_cons_succ])
          refine wpAnyD_all (rs := [9]) (by kernel_rfl) (by simp) (AllD.cons rfl (by rfl) (fun K hK => ?_) AllD.nil)
          go_simp
          have hB := Below.alloc (Below.refl wx.heap.size wx) (Nat.le_refl _) (.cells #[.bool (atomT tSigned).list, .bool (atomT tSigned).hinted, .slice aA1 an1 ac1, .slice aA2 an2 ac2, .slice aA3 an3 ac3, .bool (b).list, .bool (b).hinted, .slice bA1 bn1 bc1, .slice bA2 bn2 bc2, .slice bA3 bn3 bc3, .bool (keyV false p).list, .bool (keyV false p).hinted, .slice kA1 kn1 kc1, .slice kA2 kn2 kc2, .slice kA3 kn3 kc3, .bool false, .bool false, .slice none 0 0, .slice dA s.length dc, .slice none 0 0] 25)
          have hbn := box_new wx #[.bool (atomT tSigned).list, .bool (atomT tSigned).hinted, .slice aA1 an1 ac1, .slice aA2 an2 ac2, .slice aA3 an3 ac3, .bool (b).list, .bool (b).hinted, .slice bA1 bn1 bc1, .slice bA2 bn2 bc2, .slice bA3 bn3 bc3, .bool (keyV false p).list, .bool (keyV false p).hinted, .slice kA1 kn1 kc1, .slice kA2 kn2 kc2, .slice kA3 kn3 kc3, .bool false, .bool false, .slice none 0 0, .slice dA s.length dc, .slice none 0 0] 25
          (try have HL2 := Lib.hid (slKeepS HL2.out hB (by intro b hb; first | omega | (simp only [false_or] at hb; omega))))
          (try have HS := Lib.hid (HS.out.trans (hB.mono (by omega))))
          (try have HK := Lib.hid (slKeepS HK.out hB (by intro b hb; first | omega | (have := hS b hb; omega))))
          (try have pa := pa.keepS hB (by intro b hb; first | omega | (simp only [false_or] at hb; omega)))
          (try have pb := pb.keepS hB (by intro b hb; first | omega | (simp only [false_or] at hb; omega)))
          (try have pc := pc.keepS hB (by intro b hb; first | omega | (simp only [false_or] at hb; omega)))
          (try have pd := pd.keepS hB (by intro b hb; first | omega | (simp only [false_or] at hb; omega)))
          (try have pe := pe.keepS hB (by intro b hb; first | omega | (simp only [false_or] at hb; omega)))
          (try have HE := Lib.hid (slKeepS HE.out hB (by intro b hb; first | omega | (simp only [false_or] at hb; omega))))
          (try have HL := Lib.hid (slKeepS HL.out hB (by intro b hb; first | omega | (simp only [false_or] at hb; omega))))
          (try have hdx := box_below hdx hB (Array.getElem?_eq_some_iff.1 hdx).1)
          (try have hrx := box_below hrx hB (Array.getElem?_eq_some_iff.1 hrx).1)
          (try have hkx := box_below hkx hB (Array.getElem?_eq_some_iff.1 hkx).1)
          (try have hix := box_below hix hB (Array.getElem?_eq_some_iff.1 hix).1)
          (try have hjx := box_below hjx hB (Array.getElem?_eq_some_iff.1 hjx).1)
          have HX := Lib.hid (below_then HX.out hB)
          have hz := hB.size
          have hbl := (Array.getElem?_eq_some_iff.1 hbn).1
          first
                    | have HL := Lib.hid (sl_trees4 (x := atomT s) (S := fun b => w.heap.size + 2 ≤ b ∧ b ≠ gi ∧ b < _) hbn ⟨by omega, by omega, hbl⟩ (pa.more fun b hb => ⟨by omega, by omega, by omega⟩) (pb.more fun b hb => ⟨by omega, by omega, by omega⟩) (pc.more fun b hb => ⟨by omega, by omega, by omega⟩) ⟨Rep.sl_nil, Rep.sl_more HE.out fun b hb => ⟨by omega, by omega, by omega⟩, Rep.sl_nil⟩)
                    | have HL := Lib.hid (sl_trees4 (x := atomT s) (S := fun b => w.heap.size + 2 ≤ b ∧ b < _) hbn ⟨by omega, hbl⟩ (pa.more fun b hb => ⟨by omega, by omega⟩) (pb.more fun b hb => ⟨by omega, by omega⟩) (pc.more fun b hb => ⟨by omega, by omega⟩) ⟨Rep.sl_nil, Rep.sl_more HE.out fun b hb => ⟨by omega, by omega⟩, Rep.sl_nil⟩)
          clear hB hbn
          generalize hggk : wx.heap.size = gk at *
          generalize wx.alloc (.cells #[.bool (atomT tSigned).list, .bool (atomT tSigned).hinted, .slice aA1 an1 ac1, .slice aA2 an2 ac2, .slice aA3 an3 ac3, .bool (b).list, .bool (b).hinted, .slice bA1 bn1 bc1, .slice bA2 bn2 bc2, .slice bA3 bn3 bc3, .bool (keyV false p).list, .bool (keyV false p).hinted, .slice kA1 kn1 kc1, .slice kA2 kn2 kc2, .slice kA3 kn3 kc3, .bool false, .bool false, .slice none 0 0, .slice dA s.length dc, .slice none 0 0] 25) = wx at *
          refine hK.out _ _ (fun _ => ⟨hdx, hkx⟩) ?_
          clear hK K
          (try simp only [List.getElem_toArray, List.getElem_cons_zero, List.getElem_cons_succ, Act.put, List.setIfInBounds_toArray, List.set_cons_zero, List.set_cons_succ])
          refine wpAnyD_all (rs := [10]) (by kernel_rfl) (by simp) (AllD.cons rfl (by rfl) (fun K hK => ?_) AllD.nil)
          go_simp
          refine Calls.mono (listsxS_c _ _ _ _ _ _ (by intro b hb; omega) HL.out (by decide)) ?_
          rintro e wx ⟨eA1, en1, ec1, eA2, en2, ec2, eA3, en3, ec3, rfl, hq, hB⟩
          (try have HL2 := Lib.hid (slKeepS HL2.out hB (by intro b hb; first | omega | (simp only [false_or] at hb; omega))))
          (try have HS := Lib.hid (HS.out.trans (hB.mono (by omega))))
          (try have HK := Lib.hid (slKeepS HK.out hB (by intro b hb; first | omega | (have := hS b hb; omega))))
          (try have pa := pa.keepS hB (by intro b hb; first | omega | (simp only [false_or] at hb; omega)))
          (try have pb := pb.keepS hB (by intro b hb; first | omega | (simp only [false_or] at hb; omega)))
          (try have pc := pc.keepS hB (by intro b hb; first | omega | (simp only [false_or] at hb; omega)))
          (try have pd := pd.keepS hB (by intro b hb; first | omega | (simp only [false_or] at hb; omega)))
          (try have pe := pe.keepS hB (by intro b hb; first | omega | (simp only [false_or] at hb; omega)))
          (try have HE := Lib.hid (slKeepS HE.out hB (by intro b hb; first | omega | (simp only [false_or] at hb; omega))))
          (try have HL := Lib.hid (slKeepS HL.out hB (by intro b hb; first | omega | (simp only [false_or] at hb; omega))))
          (try have hdx := box_below hdx hB (Array.getElem?_eq_some_iff.1 hdx).1)
          (try have hrx := box_below hrx hB (Array.getElem?_eq_some_iff.1 hrx).1)
          (try have hkx := box_below hkx hB (Array.getElem?_eq_some_iff.1 hkx).1)
          (try have hix := box_below hix hB (Array.getElem?_eq_some_iff.1 hix).1)
          (try have hjx := box_below hjx hB (Array.getElem?_eq_some_iff.1 hjx).1)
          have HX := Lib.hid (below_then HX.out hB)
          have hz := hB.size
          have pe := hq
          clear hq hB
          (try simp only [treeV])
          refine hK.out _ _ (fun _ => ⟨hdx, hkx⟩) ?_
          clear hK K
          (try simp only [List.getElem_toArray, List.getElem_cons_zero, List.getElem_cons_succ, Act.put, List.setIfInBounds_toArray, List.set_cons_zero, List.set_cons_succ])
          refine wpAnyD_all (rs := [12]) (by kernel_rfl) (by simp) (AllD.cons rfl (by rfl) (fun K hK => ?_) AllD.nil)
          have hr0 := (boxed hix) 0 _ rfl; have hr1 := (boxed hix) 1 _ rfl; have hr2 := (boxed hix) 2 _ rfl; have hr3 := (boxed hix) 3 _ rfl; have hr4 := (boxed hix) 4 _ rfl
          have hf0 := boxed_frozen hix 0; have hf1 := boxed_frozen hix 1; have hf2 := boxed_frozen hix 2; have hf3 := boxed_frozen hix 3; have hf4 := boxed_frozen hix 4
          go_simp
          have hgr := put5_grown wx gi 0 (.bool (listT [atomT tSigned, b, keyV false p, atomT s]).list) (.bool (listT [atomT tSigned, b, keyV false p, atomT s]).hinted) (.slice eA1 en1 ec1) (.slice eA2 en2 ec2) (.slice eA3 en3 ec3)
          have hnw := put5_box hix 0 (.bool (listT [atomT tSigned, b, keyV false p, atomT s]).list) (.bool (listT [atomT tSigned, b, keyV false p, atomT s]).hinted) (.slice eA1 en1 ec1) (.slice eA2 en2 ec2) (.slice eA3 en3 ec3)
          clear hr0 hr1 hr2 hr3 hr4 hf0 hf1 hf2 hf3 hf4 hix
          (try have HL2 := Lib.hid (slFarS HL2.out hgr (by intro b hb; first | omega | (simp only [false_or] at hb; omega))))
          (try have HK := Lib.hid (slFarS HK.out hgr (by intro b hb; first | omega | (have := hS b hb; omega))))
          (try have pa := pa.farS hgr (by intro b hb; first | omega | (simp only [false_or] at hb; omega)))
          (try have pb := pb.farS hgr (by intro b hb; first | omega | (simp only [false_or] at hb; omega)))
          (try have pc := pc.farS hgr (by intro b hb; first | omega | (simp only [false_or] at hb; omega)))
          (try have pd := pd.farS hgr (by intro b hb; first | omega | (simp only [false_or] at hb; omega)))
          (try have pe := pe.farS hgr (by intro b hb; first | omega | (simp only [false_or] at hb; omega)))
          (try have HE := Lib.hid (slFarS HE.out hgr (by intro b hb; first | omega | (simp only [false_or] at hb; omega))))
          (try have HL := Lib.hid (slFarS HL.out hgr (by intro b hb; first | omega | (simp only [false_or] at hb; omega))))
          (try have hdx := box_grown hdx hgr (by simp <;> omega))
          (try have hrx := box_grown hrx hgr (by simp <;> omega))
          (try have hkx := box_grown hkx hgr (by simp <;> omega))
          (try have hjx := box_grown hjx hgr (by simp <;> omega))
          (try have hix := box_grown hix hgr (by simp <;> omega))
          have HX := Lib.hid (HX.out.grown hgr (by omega) fun k hk => by injection hk; omega)
          have hz := hgr.size
          have hix := hnw
          clear hgr hnw
          refine hK.out _ _ (fun h => absurd h (by decide)) ?_
          clear hK K
          (try simp only [List.getElem_toArray, List.getElem_cons_zero, List.getElem_cons_succ, Act.put, List.setIfInBounds_toArray, List.set_cons_zero, List.set_cons_succ])
          generalize hpq : put5 wx gi 0 (.bool (listT [atomT tSigned, b, keyV false p, atomT s]).list) (.bool (listT [atomT tSigned, b, keyV false p, atomT s]).hinted) (.slice eA1 en1 ec1) (.slice eA2 en2 ec2) (.slice eA3 en3 ec3) = w8 at *
          unfold put5 at hpq
          rw [hpq]
          clear hpq
          refine wpAnyD_done (by kernel_rfl) ?_ _
          go_wp2_with fail
          go_meet
          exact ⟨gi, _, _, _, _, _, _, _, _, _, rfl, pe.more (by intro b hb; omega), hix, hrx, HX.out⟩
      case rest =>
        obtain ⟨gi, eA1, en1, ec1, eA2, en2, ec2, eA3, en3, ec3, rfl, hpe, hix, hrx, HX⟩ := hcut
        have HPE := Lib.hid hpe.out
        clear hpe
        have HSZ := Lib.hid (show gi < wc.heap.size from (Array.getElem?_eq_some_iff.1 hix).1)
        have hi0 := (boxed hix) 0 _ rfl; have hi1 := (boxed hix) 1 _ rfl; have hi2 := (boxed hix) 2 _ rfl; have hi3 := (boxed hix) 3 _ rfl; have hi4 := (boxed hix) 4 _ rfl
        go_wp2_with fail
        refine Calls.mono (sxmay_c (signedT b p s) _ _ (HPE.out.more fun b hb => hb.2.1).rd (HTT.out.next HX.out) HW.out) ?_
        rintro e w5 ⟨rfl, hB⟩
        have hix := box_below hix hB (Array.getElem?_eq_some_iff.1 hix).1
        have hrx := box_below hrx hB (Array.getElem?_eq_some_iff.1 hrx).1
        have HX := Lib.hid (below_then HX.out hB)
        have hrl := (Array.getElem?_eq_some_iff.1 hrx).1
        have HPE := Lib.hid (HPE.out.keepS hB (by intro b hb; omega))
        have hz5 := hB.size
        clear hB hi0 hi1 hi2 hi3 hi4
        have hr0 := (boxed hrx) 0 _ rfl; have hr1 := (boxed hrx) 1 _ rfl; have hr2 := (boxed hrx) 2 _ rfl; have hr3 := (boxed hrx) 3 _ rfl; have hr4 := (boxed hrx) 4 _ rfl
        have hf0 := boxed_frozen hrx 0; have hf1 := boxed_frozen hrx 1; have hf2 := boxed_frozen hrx 2; have hf3 := boxed_frozen hrx 3; have hf4 := boxed_frozen hrx 4
        cases hmy : (signedT b p s).may with
        | false =>
          have HO : Hid (sOut b p s = zeroT ∧ sErr b p s = 3) := by
            have : sMay b p s = false := by rw [sMay, hmy, Bool.and_false]
            exact ⟨by rw [sOut, this]; rfl, by rw [sErr, this]; rfl⟩
          clear hmy
          go_wp2
          rw [HO.out.1, HO.out.2]
          exact treeE_ret2 (t := zeroT) (w2 := w5) (g := w.heap.size + 1) (by simp [results, Tryd.results34, go_sem, treeV, atomT, listT, Tree.list, Tree.hinted, put5, zeroT, hr0, hr1, hr2, hr3, hr4]) rfl ⟨Rep.sl_nil, Rep.sl_nil, Rep.sl_nil⟩ (fun b (hb : False) => hb.elim) HX.out (by omega) (by omega)
        | true =>
          have HO : Hid (sOut b p s = signedT b p s ∧ sErr b p s = 0) := by
            have : sMay b p s = true := by rw [sMay, hmy, show (p.length == 32) = true from HM.out, HSN.out, H64.out]; rfl
            exact ⟨by rw [sOut, this]; rfl, by rw [sErr, this]; rfl⟩
          clear hmy
          have hi0 := (boxed hix) 0 _ rfl; have hi1 := (boxed hix) 1 _ rfl; have hi2 := (boxed hix) 2 _ rfl; have hi3 := (boxed hix) 3 _ rfl; have hi4 := (boxed hix) 4 _ rfl
          go_wp2
          rw [HO.out.1, HO.out.2]
          exact treeE_ret2 (t := signedT b p s) (w2 := w5) (g := w.heap.size + 1) (by simp [results, Tryd.results34, go_sem, treeV, atomT, listT, Tree.list, Tree.hinted, put5, hr0, hr1, hr2, hr3, hr4]) rfl HPE.out (fun b hb => by omega) HX.out (by omega) (by omega)
    · have HO : Hid (sOut b p s = zeroT ∧ sErr b p s = 3) := by
        have : sMay b p s = false := by simp [sMay, HSN.out, h64]
        exact ⟨by rw [sOut, this]; rfl, by rw [sErr, this]; rfl⟩
      rw [HE.out.1]
      have h64' : ((ns : Int) == 64) = false := by rw [beq_eq_false_iff_ne]; omega
      have hd0 := (boxed hdx) 0 _ rfl; have hd1 := (boxed hdx) 1 _ rfl; have hd2 := (boxed hdx) 2 _ rfl; have hd3 := (boxed hdx) 3 _ rfl; have hd4 := (boxed hdx) 4 _ rfl; have hd5 := (boxed hdx) 5 _ rfl; have hd6 := (boxed hdx) 6 _ rfl
      go_wp2
      rw [HO.out.1, HO.out.2]
      exact treeE_ret2 (t := zeroT) (w2 := wx) (g := w.heap.size + 1) (by simp [results, Tryd.results34, go_sem, treeV, atomT, listT, Tree.list, Tree.hinted, put5, zeroT, hr0, hr1, hr2, hr3, hr4]) rfl ⟨Rep.sl_nil, Rep.sl_nil, Rep.sl_nil⟩ (fun b (hb : False) => hb.elim) HX.out (by omega) (by omega)
end Go.Proofs.YtdakeodebgggfaaDoor
