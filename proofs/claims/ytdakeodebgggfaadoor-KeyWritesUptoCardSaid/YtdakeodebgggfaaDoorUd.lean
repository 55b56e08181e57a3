/- A principal's value in the reference. -/
import Derived.Test.YtdakeodebgggfaaDoorUc
namespace Go.Proofs.YtdakeodebgggfaaDoor
open Go.RowKit
set_option linter.unusedVariables false
set_option linter.unusedSimpArgs false

theorem slKeepI {α : Type} {r : Rep α} {w w1 : World} {S : Nat → Prop} {A : Option Addr} {n c h : Nat} {x : List α} (hs : r.sl w S A n c x) (hB : Below w.heap.size w w1) (hS : ∀ b, S b → b < h) (hh : h ≤ w.heap.size) : r.sl w1 S A n c x :=
  Rep.sl_below hs hB fun b hb => Nat.lt_of_lt_of_le (hS b hb) hh
/-- A reading within the blocks from l up to h. -/
def Rep.slI {α : Type} (r : Rep α) (w : World) (l h : Nat) (A : Option Addr) (n c : Nat) (x : List α) : Prop := r.sl w (fun b => l ≤ b ∧ b < h) A n c x
theorem Rep.slI.keepI {α : Type} {r : Rep α} {w w1 : World} {l h : Nat} {A : Option Addr} {n c : Nat} {x : List α} (hs : r.slI w l h A n c x) (hB : Below w.heap.size w w1) (hh : h ≤ w.heap.size) : r.slI w1 l h A n c x :=
  Rep.sl_below hs hB fun b hb => Nat.lt_of_lt_of_le hb.2 hh
theorem Rep.slI.farI {α : Type} {r : Rep α} {w w1 : World} {l h g : Nat} {A : Option Addr} {n c : Nat} {x : List α} (hs : r.slI w l h A n c x) (hg : w.grownBy w1 (some g)) (hh : h ≤ w.heap.size) (hn : g < l ∨ h ≤ g) : r.slI w1 l h A n c x :=
  Rep.sl_grown hs hg fun b hb => ⟨Nat.lt_of_lt_of_le hb.2 hh, by rintro e; injection e; omega⟩
theorem Parts.keepI {w w1 : World} {l h : Nat} {t : Tree} {A1 A2 A3 : Option Addr} {n1 c1 n2 c2 n3 c3 : Nat} (hp : Parts w (fun b => l ≤ b ∧ b < h) t A1 n1 c1 A2 n2 c2 A3 n3 c3) (hB : Below w.heap.size w w1) (hh : h ≤ w.heap.size) : Parts w1 (fun b => l ≤ b ∧ b < h) t A1 n1 c1 A2 n2 c2 A3 n3 c3 :=
  ⟨Rep.slI.keepI hp.1 hB hh, Rep.slI.keepI hp.2.1 hB hh, Rep.slI.keepI hp.2.2 hB hh⟩
theorem Parts.farI {w w1 : World} {l h g : Nat} {t : Tree} {A1 A2 A3 : Option Addr} {n1 c1 n2 c2 n3 c3 : Nat} (hp : Parts w (fun b => l ≤ b ∧ b < h) t A1 n1 c1 A2 n2 c2 A3 n3 c3) (hg : w.grownBy w1 (some g)) (hh : h ≤ w.heap.size) (hn : g < l ∨ h ≤ g) : Parts w1 (fun b => l ≤ b ∧ b < h) t A1 n1 c1 A2 n2 c2 A3 n3 c3 :=
  ⟨Rep.slI.farI hp.1 hg hh hn, Rep.slI.farI hp.2.1 hg hh hn, Rep.slI.farI hp.2.2 hg hh hn⟩

set_option maxHeartbeats 2000000 in
set_option maxRecDepth 100000 in
theorem refvalue_c (s : Bool) (d : List UInt8) (A : Option Addr) (n c : Nat) (w : World) (hs : Rep.u8.sl w (fun b => b < w.heap.size) A n c d) (hn : n ≤ 1000000000) :
    Calls Tryd.prog 20 #[.agg #[.bool s, .slice A n c]] w (TreePost w 0 (keyV s d)) := by
  have HX0 := Lib.hid (((Below.alloc (Below.refl _ w) (Nat.le_refl _) (.cells #[.bool s, .slice A n c] 38)).alloc (by simp only [World.size_alloc]; omega) (.cells #[.bool false, .bool false, .slice none 0 0, .slice none 0 0, .slice none 0 0] 25)).alloc (by simp only [World.size_alloc]; omega) (.cells #[.bool false, .bool false, .slice none 0 0, .slice A n c, .slice none 0 0] 25))
  have hrx0 := box_alloc (box_new1 (w := w) (o := .cells #[.bool s, .slice A n c] 38) (cs := #[.bool false, .bool false, .slice none 0 0, .slice none 0 0, .slice none 0 0]) (t := 25)) (.cells #[.bool false, .bool false, .slice none 0 0, .slice A n c, .slice none 0 0] 25)
  have pd : Parts _ (fun b => 0 ≤ b ∧ b < w.heap.size) (atomT d) none 0 0 A n c none 0 0 := ⟨Rep.sl_nil, Rep.sl_more (Rep.sl_below hs HX0.out fun _ h => h) fun b hb => ⟨Nat.zero_le _, hb⟩, Rep.sl_nil⟩
  have hdx : (((w.alloc (.cells #[.bool s, .slice A n c] 38)).alloc (.cells #[.bool false, .bool false, .slice none 0 0, .slice none 0 0, .slice none 0 0] 25)).alloc (.cells #[.bool false, .bool false, .slice none 0 0, .slice A n c, .slice none 0 0] 25)).heap[w.heap.size + 1 + 1]? = some (.cells #[.bool false, .bool false, .slice none 0 0, .slice A n c, .slice none 0 0] 25 (0, 0)) := by
    have := box_new ((w.alloc (.cells #[.bool s, .slice A n c] 38)).alloc (.cells #[.bool false, .bool false, .slice none 0 0, .slice none 0 0, .slice none 0 0] 25)) #[.bool false, .bool false, .slice none 0 0, .slice A n c, .slice none 0 0] 25
    simpa only [World.size_alloc] using this
  have hz0 : w.heap.size + 3 ≤ (((w.alloc (.cells #[.bool s, .slice A n c] 38)).alloc (.cells #[.bool false, .bool false, .slice none 0 0, .slice none 0 0, .slice none 0 0] 25)).alloc (.cells #[.bool false, .bool false, .slice none 0 0, .slice A n c, .slice none 0 0] 25)).heap.size := by simp only [World.size_alloc]; omega
  clear hs
  go_enter Tryd.func20, Tryd.ntmps20
  cases s
  · go_wp2_with fail
    have hrx := hrx0
    have HX := HX0
    clear hrx0 HX0
    generalize ((w.alloc (.cells #[.bool false, .slice A n c] 38)).alloc (.cells #[.bool false, .bool false, .slice none 0 0, .slice none 0 0, .slice none 0 0] 25)).alloc (.cells #[.bool false, .bool false, .slice none 0 0, .slice A n c, .slice none 0 0] 25) = w3 at *
    have hB := (Below.refl w3.heap.size w3).drew
    (try have pa := pa.keepI hB (by omega))
    (try have pb := pb.keepI hB (by omega))
    (try have pc := pc.keepI hB (by omega))
    (try have pd := pd.keepI hB (by omega))
    (try have pe := pe.keepI hB (by omega))
    (try have HE := Lib.hid (HE.out.keepI hB (by omega)))
    (try have HL := Lib.hid (HL.out.keepI hB (by omega)))
    (try have hdx := box_below hdx hB (Array.getElem?_eq_some_iff.1 hdx).1)
    (try have hrx := box_below hrx hB (Array.getElem?_eq_some_iff.1 hrx).1)
    (try have hkx := box_below hkx hB (Array.getElem?_eq_some_iff.1 hkx).1)
    (try have hix := box_below hix hB (Array.getElem?_eq_some_iff.1 hix).1)
    (try have hjx := box_below hjx hB (Array.getElem?_eq_some_iff.1 hjx).1)
    have HX := Lib.hid (below_then HX.out hB)
    have hz := hB.size
    have hS := hdx
    clear hB
    refine wp_region_D (fun w' => w'.heap[w.heap.size + 1 + 1]? = some (.cells #[.bool false, .bool false, .slice none 0 0, .slice A n c, .slice none 0 0] 25 (0, 0))) [5] (by kernel_rfl) ?_
    generalize w3.drew = wx at *
    refine wpAnyD_take (i := 1) (v := ?_) rfl (by kernel_rfl) (by kernel_rfl) (by kernel_rfl) (by kernel_rfl) (fun _ _ _ h => by first | exact h | cases h.1) (by rfl) (by kernel_rfl) (Or.inl ⟨by rfl, ?_⟩) (by first | exact HS.out | exact hS | exact hdx | exact ⟨hdx, hkx⟩) ?_
    rotate_left
    · (intro w' hw'; (try dsimp only at hw'); (have c0 := (boxed hw') 0 _ rfl; have c1 := (boxed hw') 1 _ rfl; have c2 := (boxed hw') 2 _ rfl; have c3 := (boxed hw') 3 _ rfl; have c4 := (boxed hw') 4 _ rfl); go_simp; first | done | with_reducible rfl)
    (try simp only [List.getElem_toArray, List.getElem_cons_zero, List.getElem_cons_succ, Act.put, List.setIfInBounds_toArray, List.set_cons_zero, List.set_cons_succ])
    refine wpAnyD_all (rs := [0, 4]) (by kernel_rfl) (by simp) (AllD.cons rfl (by rfl) (fun K hK => ?_) (AllD.cons rfl (by rfl) (fun K hK => ?_) AllD.nil))
    · go_simp
      refine Calls.mono (atomref_c tEd _ _ (Nat.le_refl _) (by decide)) ?_
      rintro e wx ⟨bA1, bn1, bc1, bA2, bn2, bc2, bA3, bn3, bc3, rfl, hq, hB⟩
      (try have pa := pa.keepI hB (by omega))
      (try have pb := pb.keepI hB (by omega))
      (try have pc := pc.keepI hB (by omega))
      (try have pd := pd.keepI hB (by omega))
      (try have pe := pe.keepI hB (by omega))
      (try have HE := Lib.hid (HE.out.keepI hB (by omega)))
      (try have HL := Lib.hid (HL.out.keepI hB (by omega)))
      (try have hdx := box_below hdx hB (Array.getElem?_eq_some_iff.1 hdx).1)
      (try have hrx := box_below hrx hB (Array.getElem?_eq_some_iff.1 hrx).1)
      (try have hkx := box_below hkx hB (Array.getElem?_eq_some_iff.1 hkx).1)
      (try have hix := box_below hix hB (Array.getElem?_eq_some_iff.1 hix).1)
      (try have hjx := box_below hjx hB (Array.getElem?_eq_some_iff.1 hjx).1)
      have HX := Lib.hid (below_then HX.out hB)
      have hz := hB.size
      have pb := hq
      clear hq hB
      simp only [treeV]
      refine hK.out _ _ (fun _ => hdx) ?_
      clear hK K
      (try simp only [List.getElem_toArray, List.getElem_cons_zero, List.getElem_cons_succ, Act.put, List.setIfInBounds_toArray, List.set_cons_zero, List.set_cons_succ])
      refine wpAnyD_all (rs := [2, 4]) (by kernel_rfl) (by simp) (AllD.cons rfl (by rfl) (fun K hK => ?_) (AllD.cons rfl (by rfl) (fun K hK => ?_) AllD.nil))
      · go_simp
        have hB := Below.alloc (Below.refl wx.heap.size wx) (Nat.le_refl _) (.cells #[.bool (atomT tEd).list, .bool (atomT tEd).hinted, .slice bA1 bn1 bc1, .slice bA2 bn2 bc2, .slice bA3 bn3 bc3, .bool false, .bool false, .slice none 0 0, .slice A n c, .slice none 0 0] 25)
        have hbn := box_new wx #[.bool (atomT tEd).list, .bool (atomT tEd).hinted, .slice bA1 bn1 bc1, .slice bA2 bn2 bc2, .slice bA3 bn3 bc3, .bool false, .bool false, .slice none 0 0, .slice A n c, .slice none 0 0] 25
        (try have pa := pa.keepI hB (by omega))
        (try have pb := pb.keepI hB (by omega))
        (try have pc := pc.keepI hB (by omega))
        (try have pd := pd.keepI hB (by omega))
        (try have pe := pe.keepI hB (by omega))
        (try have HE := Lib.hid (HE.out.keepI hB (by omega)))
        (try have HL := Lib.hid (HL.out.keepI hB (by omega)))
        (try have hdx := box_below hdx hB (Array.getElem?_eq_some_iff.1 hdx).1)
        (try have hrx := box_below hrx hB (Array.getElem?_eq_some_iff.1 hrx).1)
        (try have hkx := box_below hkx hB (Array.getElem?_eq_some_iff.1 hkx).1)
        (try have hix := box_below hix hB (Array.getElem?_eq_some_iff.1 hix).1)
        (try have hjx := box_below hjx hB (Array.getElem?_eq_some_iff.1 hjx).1)
        have HX := Lib.hid (below_then HX.out hB)
        have hz := hB.size
        have hjx := hbn
        have hbl := (Array.getElem?_eq_some_iff.1 hbn).1
        clear hB hbn
        generalize hgk : wx.heap.size = gk at *
        generalize wx.alloc (.cells #[.bool (atomT tEd).list, .bool (atomT tEd).hinted, .slice bA1 bn1 bc1, .slice bA2 bn2 bc2, .slice bA3 bn3 bc3, .bool false, .bool false, .slice none 0 0, .slice A n c, .slice none 0 0] 25) = wx at *
        refine hK.out _ _ (fun _ => hdx) ?_
        clear hK K
        (try simp only [List.getElem_toArray, List.getElem_cons_zero, List.getElem_cons_succ, Act.put, List.setIfInBounds_toArray, List.set_cons_zero, List.set_cons_succ])
        refine wpAnyD_take (i := 3) (v := ?_) rfl (by kernel_rfl) (by kernel_rfl) (by kernel_rfl) (by kernel_rfl) (fun _ _ _ h => by first | exact h | cases h.1) (by rfl) (by kernel_rfl) (Or.inl ⟨by rfl, ?_⟩) (by first | exact HS.out | exact hS | exact hdx | exact ⟨hdx, hkx⟩) ?_
        rotate_left
        · (intro w' hw'; (try dsimp only at hw'); skip; go_simp; first | done | with_reducible rfl)
        (try simp only [List.getElem_toArray, List.getElem_cons_zero, List.getElem_cons_succ, Act.put, List.setIfInBounds_toArray, List.set_cons_zero, List.set_cons_succ])
        refine wpAnyD_all (rs := [4]) (by kernel_rfl) (by simp) (AllD.cons rfl (by rfl) (fun K hK => ?_) AllD.nil)
        go_simp
        have hB := Below.alloc (Below.refl wx.heap.size wx) (Nat.le_refl _) (.cells #[.bool false, .bool false, .slice none 0 0, .slice none 0 0, .slice none 0 0] 25)
        have hin := box_new wx #[.bool false, .bool false, .slice none 0 0, .slice none 0 0, .slice none 0 0] 25
        (try have pa := pa.keepI hB (by omega))
        (try have pb := pb.keepI hB (by omega))
        (try have pc := pc.keepI hB (by omega))
        (try have pd := pd.keepI hB (by omega))
        (try have pe := pe.keepI hB (by omega))
        (try have HE := Lib.hid (HE.out.keepI hB (by omega)))
        (try have HL := Lib.hid (HL.out.keepI hB (by omega)))
        (try have hdx := box_below hdx hB (Array.getElem?_eq_some_iff.1 hdx).1)
        (try have hrx := box_below hrx hB (Array.getElem?_eq_some_iff.1 hrx).1)
        (try have hkx := box_below hkx hB (Array.getElem?_eq_some_iff.1 hkx).1)
        (try have hix := box_below hix hB (Array.getElem?_eq_some_iff.1 hix).1)
        (try have hjx := box_below hjx hB (Array.getElem?_eq_some_iff.1 hjx).1)
        have HX := Lib.hid (below_then HX.out hB)
        have hz := hB.size
        have hix := hin
        have hgl := (Array.getElem?_eq_some_iff.1 hix).1
        clear hB hin
        generalize hgi : wx.heap.size = gi at *
        generalize wx.alloc (.cells #[.bool false, .bool false, .slice none 0 0, .slice none 0 0, .slice none 0 0] 25) = wx at *
        refine hK.out _ _ (fun _ => hdx) ?_
        clear hK K
        (try simp only [List.getElem_toArray, List.getElem_cons_zero, List.getElem_cons_succ, Act.put, List.setIfInBounds_toArray, List.set_cons_zero, List.set_cons_succ])
        refine wpAnyD_all (rs := [5]) (by kernel_rfl) (by simp) (AllD.cons rfl (by rfl) (fun K hK => ?_) AllD.nil)
        have hr0 := (boxed hix) 0 _ rfl; have hr1 := (boxed hix) 1 _ rfl; have hr2 := (boxed hix) 2 _ rfl; have hr3 := (boxed hix) 3 _ rfl; have hr4 := (boxed hix) 4 _ rfl
        have hf0 := boxed_frozen hix 0; have hf1 := boxed_frozen hix 1; have hf2 := boxed_frozen hix 2; have hf3 := boxed_frozen hix 3; have hf4 := boxed_frozen hix 4
        go_simp
        have hgr := put5_grown wx gi 0 (.bool true) (.bool false) (.slice none 0 0) (.slice none 0 0) (.slice (some ⟨gk, 0, none⟩) 2 2)
        have hnw := put5_box hix 0 (.bool true) (.bool false) (.slice none 0 0) (.slice none 0 0) (.slice (some ⟨gk, 0, none⟩) 2 2)
        clear hr0 hr1 hr2 hr3 hr4 hf0 hf1 hf2 hf3 hf4 hix
        (try have pa := pa.farI hgr (by omega) (by omega))
        (try have pb := pb.farI hgr (by omega) (by omega))
        (try have pc := pc.farI hgr (by omega) (by omega))
        (try have pd := pd.farI hgr (by omega) (by omega))
        (try have pe := pe.farI hgr (by omega) (by omega))
        (try have HE := Lib.hid (HE.out.farI hgr (by omega) (by omega)))
        (try have HL := Lib.hid (HL.out.farI hgr (by omega) (by omega)))
        (try have hdx := box_grown hdx hgr (by simp <;> omega))
        (try have hrx := box_grown hrx hgr (by simp <;> omega))
        (try have hkx := box_grown hkx hgr (by simp <;> omega))
        (try have hjx := box_grown hjx hgr (by simp <;> omega))
        (try have hix := box_grown hix hgr (by simp <;> omega))
        have HX := Lib.hid (HX.out.grown hgr (by omega) fun k hk => by injection hk; omega)
        have hz := hgr.size
        have hix := hnw
        clear hgr hnw
        refine hK.out _ _ (fun h => absurd h (by decide)) ?_
        clear hK K
        (try simp only [List.getElem_toArray, List.getElem_cons_zero, List.getElem_cons_succ, Act.put, List.setIfInBounds_toArray, List.set_cons_zero, List.set_cons_succ])
        generalize hpq : put5 wx gi 0 (.bool true) (.bool false) (.slice none 0 0) (.slice none 0 0) (.slice (some ⟨gk, 0, none⟩) 2 2) = w8 at *
        unfold put5 at hpq
        rw [hpq]
        clear hpq
        refine wpAnyD_done (by kernel_rfl) ?_ _
        go_wp2_with fail
        have hB := (Below.refl w8.heap.size w8).drew
        (try have pa := pa.keepI hB (by omega))
        (try have pb := pb.keepI hB (by omega))
        (try have pc := pc.keepI hB (by omega))
        (try have pd := pd.keepI hB (by omega))
        (try have pe := pe.keepI hB (by omega))
        (try have HE := Lib.hid (HE.out.keepI hB (by omega)))
        (try have HL := Lib.hid (HL.out.keepI hB (by omega)))
        (try have hdx := box_below hdx hB (Array.getElem?_eq_some_iff.1 hdx).1)
        (try have hrx := box_below hrx hB (Array.getElem?_eq_some_iff.1 hrx).1)
        (try have hkx := box_below hkx hB (Array.getElem?_eq_some_iff.1 hkx).1)
        (try have hix := box_below hix hB (Array.getElem?_eq_some_iff.1 hix).1)
        (try have hjx := box_below hjx hB (Array.getElem?_eq_some_iff.1 hjx).1)
        have HX := Lib.hid (below_then HX.out hB)
        have hz := hB.size
        clear hB hdx
        have hdx := hix
        have hS := hdx
        refine wp_region_D (fun w' => w'.heap[gi]? = some (.cells #[.bool true, .bool false, .slice none 0 0, .slice none 0 0, .slice (some ⟨gk, 0, none⟩) 2 2] 25 (0, 0))) [4] (by kernel_rfl) ?_
        generalize w8.drew = wx at *
        refine wpAnyD_take (i := 1) (v := ?_) rfl (by kernel_rfl) (by kernel_rfl) (by kernel_rfl) (by kernel_rfl) (fun _ _ _ h => by first | exact h | cases h.1) (by rfl) (by kernel_rfl) (Or.inl ⟨by rfl, ?_⟩) (by first | exact HS.out | exact hS | exact hdx | exact ⟨hdx, hkx⟩) ?_
        rotate_left
        · (intro w' hw'; (try dsimp only at hw'); (have c0 := (boxed hw') 0 _ rfl; have c1 := (boxed hw') 1 _ rfl; have c2 := (boxed hw') 2 _ rfl; have c3 := (boxed hw') 3 _ rfl; have c4 := (boxed hw') 4 _ rfl); go_simp; first | done | with_reducible rfl)
        (try simp only [List.getElem_toArray, List.getElem_cons_zero, List.getElem_cons_succ, Act.put, List.setIfInBounds_toArray, List.set_cons_zero, List.set_cons_succ])
        refine wpAnyD_all (rs := [0]) (by kernel_rfl) (by simp) (AllD.cons rfl (by rfl) (fun K hK => ?_) AllD.nil)
        go_simp
        refine Calls.mono (atomref_c tPub _ _ (Nat.le_refl _) (by decide)) ?_
        rintro e wx ⟨aA1, an1, ac1, aA2, an2, ac2, aA3, an3, ac3, rfl, hq, hB⟩
        (try have pa := pa.keepI hB (by omega))
        (try have pb := pb.keepI hB (by omega))
        (try have pc := pc.keepI hB (by omega))
        (try have pd := pd.keepI hB (by omega))
        (try have pe := pe.keepI hB (by omega))
        (try have HE := Lib.hid (HE.out.keepI hB (by omega)))
        (try have HL := Lib.hid (HL.out.keepI hB (by omega)))
        (try have hdx := box_below hdx hB (Array.getElem?_eq_some_iff.1 hdx).1)
        (try have hrx := box_below hrx hB (Array.getElem?_eq_some_iff.1 hrx).1)
        (try have hkx := box_below hkx hB (Array.getElem?_eq_some_iff.1 hkx).1)
        (try have hix := box_below hix hB (Array.getElem?_eq_some_iff.1 hix).1)
        (try have hjx := box_below hjx hB (Array.getElem?_eq_some_iff.1 hjx).1)
        have HX := Lib.hid (below_then HX.out hB)
        have hz := hB.size
        have pa := hq
        clear hq hB
        simp only [treeV]
        refine hK.out _ _ (fun _ => hdx) ?_
        clear hK K
        (try simp only [List.getElem_toArray, List.getElem_cons_zero, List.getElem_cons_succ, Act.put, List.setIfInBounds_toArray, List.set_cons_zero, List.set_cons_succ])
        refine wpAnyD_all (rs := [2]) (by kernel_rfl) (by simp) (AllD.cons rfl (by rfl) (fun K hK => ?_) AllD.nil)
        go_simp
        have hB := Below.alloc (Below.refl wx.heap.size wx) (Nat.le_refl _) (.cells #[.bool (atomT tPub).list, .bool (atomT tPub).hinted, .slice aA1 an1 ac1, .slice aA2 an2 ac2, .slice aA3 an3 ac3, .bool true, .bool false, .slice none 0 0, .slice none 0 0, .slice (some ⟨gk, 0, none⟩) 2 2] 25)
        have hbn := box_new wx #[.bool (atomT tPub).list, .bool (atomT tPub).hinted, .slice aA1 an1 ac1, .slice aA2 an2 ac2, .slice aA3 an3 ac3, .bool true, .bool false, .slice none 0 0, .slice none 0 0, .slice (some ⟨gk, 0, none⟩) 2 2] 25
        (try have pa := pa.keepI hB (by omega))
        (try have pb := pb.keepI hB (by omega))
        (try have pc := pc.keepI hB (by omega))
        (try have pd := pd.keepI hB (by omega))
        (try have pe := pe.keepI hB (by omega))
        (try have HE := Lib.hid (HE.out.keepI hB (by omega)))
        (try have HL := Lib.hid (HL.out.keepI hB (by omega)))
        (try have hdx := box_below hdx hB (Array.getElem?_eq_some_iff.1 hdx).1)
        (try have hrx := box_below hrx hB (Array.getElem?_eq_some_iff.1 hrx).1)
        (try have hkx := box_below hkx hB (Array.getElem?_eq_some_iff.1 hkx).1)
        (try have hix := box_below hix hB (Array.getElem?_eq_some_iff.1 hix).1)
        (try have hjx := box_below hjx hB (Array.getElem?_eq_some_iff.1 hjx).1)
        have HX := Lib.hid (below_then HX.out hB)
        have hz := hB.size
        have hkx := hbn
        have hbl := (Array.getElem?_eq_some_iff.1 hbn).1
        clear hB hbn
        generalize hgm : wx.heap.size = gm at *
        generalize wx.alloc (.cells #[.bool (atomT tPub).list, .bool (atomT tPub).hinted, .slice aA1 an1 ac1, .slice aA2 an2 ac2, .slice aA3 an3 ac3, .bool true, .bool false, .slice none 0 0, .slice none 0 0, .slice (some ⟨gk, 0, none⟩) 2 2] 25) = wx at *
        refine hK.out _ _ (fun _ => hdx) ?_
        clear hK K
        (try simp only [List.getElem_toArray, List.getElem_cons_zero, List.getElem_cons_succ, Act.put, List.setIfInBounds_toArray, List.set_cons_zero, List.set_cons_succ])
        refine wpAnyD_take (i := 3) (v := ?_) rfl (by kernel_rfl) (by kernel_rfl) (by kernel_rfl) (by kernel_rfl) (fun _ _ _ h => by first | exact h | cases h.1) (by rfl) (by kernel_rfl) (Or.inl ⟨by rfl, ?_⟩) (by first | exact HS.out | exact hS | exact hdx | exact ⟨hdx, hkx⟩) ?_
        rotate_left
        · (intro w' hw'; (try dsimp only at hw'); skip; go_simp; first | done | with_reducible rfl)
        (try simp only [List.getElem_toArray, List.getElem_cons_zero, List.getElem_cons_succ, Act.put, List.setIfInBounds_toArray, List.set_cons_zero, List.set_cons_succ])
        refine wpAnyD_all (rs := [4]) (by kernel_rfl) (by simp) (AllD.cons rfl (by rfl) (fun K hK => ?_) AllD.nil)
        have hr0 := (boxed hrx) 0 _ rfl; have hr1 := (boxed hrx) 1 _ rfl; have hr2 := (boxed hrx) 2 _ rfl; have hr3 := (boxed hrx) 3 _ rfl; have hr4 := (boxed hrx) 4 _ rfl
        have hf0 := boxed_frozen hrx 0; have hf1 := boxed_frozen hrx 1; have hf2 := boxed_frozen hrx 2; have hf3 := boxed_frozen hrx 3; have hf4 := boxed_frozen hrx 4
        go_simp
        refine hK.out _ _ (fun h => absurd h (by decide)) ?_
        clear hK K
        (try simp only [List.getElem_toArray, List.getElem_cons_zero, List.getElem_cons_succ, Act.put, List.setIfInBounds_toArray, List.set_cons_zero, List.set_cons_succ])
        refine wpAnyD_done (by kernel_rfl) ?_ _
        go_wp2
        have HL := Lib.hid (sl_trees2 (t := atomT tEd) (u := atomT d) (S := fun b => b ≠ w.heap.size + 1 ∧ b < wx.heap.size) hjx ⟨by omega, by omega⟩ (pb.more fun b hb => ⟨by omega, by omega⟩) (pd.more fun b hb => ⟨by omega, by omega⟩))
        have pe : Parts wx (fun b => b ≠ w.heap.size + 1 ∧ b < wx.heap.size) (listT [atomT tEd, atomT d]) none 0 0 none 0 0 (some ⟨gk, 0, none⟩) 2 2 := ⟨Rep.sl_nil, Rep.sl_nil, HL.out⟩
        have HM := Lib.hid (sl_trees2 (t := atomT tPub) (u := listT [atomT tEd, atomT d]) (S := fun b => b ≠ w.heap.size + 1 ∧ b < wx.heap.size) hkx ⟨by omega, by omega⟩ (pa.more fun b hb => ⟨by omega, by omega⟩) pe)
        exact tree_ret2 (S := fun b => b ≠ w.heap.size + 1 ∧ b < wx.heap.size) (t := listT [atomT tPub, listT [atomT tEd, atomT d]]) (w2 := wx) (g := w.heap.size + 1) (by simp [results, Tryd.results20, go_sem, treeV, atomT, listT, Tree.list, Tree.hinted, put5, hr0, hr1, hr2, hr3, hr4]) rfl ⟨Rep.sl_nil, Rep.sl_nil, HM.out⟩ (fun b hb => ⟨Nat.zero_le _, hb.2, hb.1⟩) HX.out (by omega) (by omega)
      · go_simp
        have hB := Below.alloc (Below.refl wx.heap.size wx) (Nat.le_refl _) (.cells #[.bool false, .bool false, .slice none 0 0, .slice none 0 0, .slice none 0 0] 25)
        have hin := box_new wx #[.bool false, .bool false, .slice none 0 0, .slice none 0 0, .slice none 0 0] 25
        (try have pa := pa.keepI hB (by omega))
        (try have pb := pb.keepI hB (by omega))
        (try have pc := pc.keepI hB (by omega))
        (try have pd := pd.keepI hB (by omega))
        (try have pe := pe.keepI hB (by omega))
        (try have HE := Lib.hid (HE.out.keepI hB (by omega)))
        (try have HL := Lib.hid (HL.out.keepI hB (by omega)))
        (try have hdx := box_below hdx hB (Array.getElem?_eq_some_iff.1 hdx).1)
        (try have hrx := box_below hrx hB (Array.getElem?_eq_some_iff.1 hrx).1)
        (try have hkx := box_below hkx hB (Array.getElem?_eq_some_iff.1 hkx).1)
        (try have hix := box_below hix hB (Array.getElem?_eq_some_iff.1 hix).1)
        (try have hjx := box_below hjx hB (Array.getElem?_eq_some_iff.1 hjx).1)
        have HX := Lib.hid (below_then HX.out hB)
        have hz := hB.size
        have hix := hin
        have hgl := (Array.getElem?_eq_some_iff.1 hix).1
        clear hB hin
        generalize hgi : wx.heap.size = gi at *
        generalize wx.alloc (.cells #[.bool false, .bool false, .slice none 0 0, .slice none 0 0, .slice none 0 0] 25) = wx at *
        refine hK.out _ _ (fun _ => hdx) ?_
        clear hK K
        (try simp only [List.getElem_toArray, List.getElem_cons_zero, List.getElem_cons_succ, Act.put, List.setIfInBounds_toArray, List.set_cons_zero, List.set_cons_succ])
        refine wpAnyD_all (rs := [2]) (by kernel_rfl) (by simp) (AllD.cons rfl (by rfl) (fun K hK => ?_) AllD.nil)
        go_simp
        have hB := Below.alloc (Below.refl wx.heap.size wx) (Nat.le_refl _) (.cells #[.bool (atomT tEd).list, .bool (atomT tEd).hinted, .slice bA1 bn1 bc1, .slice bA2 bn2 bc2, .slice bA3 bn3 bc3, .bool false, .bool false, .slice none 0 0, .slice A n c, .slice none 0 0] 25)
        have hbn := box_new wx #[.bool (atomT tEd).list, .bool (atomT tEd).hinted, .slice bA1 bn1 bc1, .slice bA2 bn2 bc2, .slice bA3 bn3 bc3, .bool false, .bool false, .slice none 0 0, .slice A n c, .slice none 0 0] 25
        (try have pa := pa.keepI hB (by omega))
        (try have pb := pb.keepI hB (by omega))
        (try have pc := pc.keepI hB (by omega))
        (try have pd := pd.keepI hB (by omega))
        (try have pe := pe.keepI hB (by omega))
        (try have HE := Lib.hid (HE.out.keepI hB (by omega)))
        (try have HL := Lib.hid (HL.out.keepI hB (by omega)))
        (try have hdx := box_below hdx hB (Array.getElem?_eq_some_iff.1 hdx).1)
        (try have hrx := box_below hrx hB (Array.getElem?_eq_some_iff.1 hrx).1)
        (try have hkx := box_below hkx hB (Array.getElem?_eq_some_iff.1 hkx).1)
        (try have hix := box_below hix hB (Array.getElem?_eq_some_iff.1 hix).1)
        (try have hjx := box_below hjx hB (Array.getElem?_eq_some_iff.1 hjx).1)
        have HX := Lib.hid (below_then HX.out hB)
        have hz := hB.size
        have hjx := hbn
        have hbl := (Array.getElem?_eq_some_iff.1 hbn).1
        clear hB hbn
        generalize hgk : wx.heap.size = gk at *
        generalize wx.alloc (.cells #[.bool (atomT tEd).list, .bool (atomT tEd).hinted, .slice bA1 bn1 bc1, .slice bA2 bn2 bc2, .slice bA3 bn3 bc3, .bool false, .bool false, .slice none 0 0, .slice A n c, .slice none 0 0] 25) = wx at *
        refine hK.out _ _ (fun _ => hdx) ?_
        clear hK K
        (try simp only [List.getElem_toArray, List.getElem_cons_zero, List.getElem_cons_succ, Act.put, List.setIfInBounds_toArray, List.set_cons_zero, List.set_cons_succ])
        refine wpAnyD_take (i := 3) (v := ?_) rfl (by kernel_rfl) (by kernel_rfl) (by kernel_rfl) (by kernel_rfl) (fun _ _ _ h => by first | exact h | cases h.1) (by rfl) (by kernel_rfl) (Or.inl ⟨by rfl, ?_⟩) (by first | exact HS.out | exact hS | exact hdx | exact ⟨hdx, hkx⟩) ?_
        rotate_left
        · (intro w' hw'; (try dsimp only at hw'); skip; go_simp; first | done | with_reducible rfl)
        (try simp only [List.getElem_toArray, List.getElem_cons_zero, List.getElem_cons_succ, Act.put, List.setIfInBounds_toArray, List.set_cons_zero, List.set_cons_succ])
        refine wpAnyD_all (rs := [5]) (by kernel_rfl) (by simp) (AllD.cons rfl (by rfl) (fun K hK => ?_) AllD.nil)
        have hr0 := (boxed hix) 0 _ rfl; have hr1 := (boxed hix) 1 _ rfl; have hr2 := (boxed hix) 2 _ rfl; have hr3 := (boxed hix) 3 _ rfl; have hr4 := (boxed hix) 4 _ rfl
        have hf0 := boxed_frozen hix 0; have hf1 := boxed_frozen hix 1; have hf2 := boxed_frozen hix 2; have hf3 := boxed_frozen hix 3; have hf4 := boxed_frozen hix 4
        go_simp
        have hgr := put5_grown wx gi 0 (.bool true) (.bool false) (.slice none 0 0) (.slice none 0 0) (.slice (some ⟨gk, 0, none⟩) 2 2)
        have hnw := put5_box hix 0 (.bool true) (.bool false) (.slice none 0 0) (.slice none 0 0) (.slice (some ⟨gk, 0, none⟩) 2 2)
        clear hr0 hr1 hr2 hr3 hr4 hf0 hf1 hf2 hf3 hf4 hix
        (try have pa := pa.farI hgr (by omega) (by omega))
        (try have pb := pb.farI hgr (by omega) (by omega))
        (try have pc := pc.farI hgr (by omega) (by omega))
        (try have pd := pd.farI hgr (by omega) (by omega))
        (try have pe := pe.farI hgr (by omega) (by omega))
        (try have HE := Lib.hid (HE.out.farI hgr (by omega) (by omega)))
        (try have HL := Lib.hid (HL.out.farI hgr (by omega) (by omega)))
        (try have hdx := box_grown hdx hgr (by simp <;> omega))
        (try have hrx := box_grown hrx hgr (by simp <;> omega))
        (try have hkx := box_grown hkx hgr (by simp <;> omega))
        (try have hjx := box_grown hjx hgr (by simp <;> omega))
        (try have hix := box_grown hix hgr (by simp <;> omega))
        have HX := Lib.hid (HX.out.grown hgr (by omega) fun k hk => by injection hk; omega)
        have hz := hgr.size
        have hix := hnw
        clear hgr hnw
        refine hK.out _ _ (fun h => absurd h (by decide)) ?_
        clear hK K
        (try simp only [List.getElem_toArray, List.getElem_cons_zero, List.getElem_cons_succ, Act.put, List.setIfInBounds_toArray, List.set_cons_zero, List.set_cons_succ])
        generalize hpq : put5 wx gi 0 (.bool true) (.bool false) (.slice none 0 0) (.slice none 0 0) (.slice (some ⟨gk, 0, none⟩) 2 2) = w8 at *
        unfold put5 at hpq
        rw [hpq]
        clear hpq
        refine wpAnyD_done (by kernel_rfl) ?_ _
        go_wp2_with fail
        have hB := (Below.refl w8.heap.size w8).drew
        (try have pa := pa.keepI hB (by omega))
        (try have pb := pb.keepI hB (by omega))
        (try have pc := pc.keepI hB (by omega))
        (try have pd := pd.keepI hB (by omega))
        (try have pe := pe.keepI hB (by omega))
        (try have HE := Lib.hid (HE.out.keepI hB (by omega)))
        (try have HL := Lib.hid (HL.out.keepI hB (by omega)))
        (try have hdx := box_below hdx hB (Array.getElem?_eq_some_iff.1 hdx).1)
        (try have hrx := box_below hrx hB (Array.getElem?_eq_some_iff.1 hrx).1)
        (try have hkx := box_below hkx hB (Array.getElem?_eq_some_iff.1 hkx).1)
        (try have hix := box_below hix hB (Array.getElem?_eq_some_iff.1 hix).1)
        (try have hjx := box_below hjx hB (Array.getElem?_eq_some_iff.1 hjx).1)
        have HX := Lib.hid (below_then HX.out hB)
        have hz := hB.size
        clear hB hdx
        have hdx := hix
        have hS := hdx
        refine wp_region_D (fun w' => w'.heap[gi]? = some (.cells #[.bool true, .bool false, .slice none 0 0, .slice none 0 0, .slice (some ⟨gk, 0, none⟩) 2 2] 25 (0, 0))) [4] (by kernel_rfl) ?_
        generalize w8.drew = wx at *
        refine wpAnyD_take (i := 1) (v := ?_) rfl (by kernel_rfl) (by kernel_rfl) (by kernel_rfl) (by kernel_rfl) (fun _ _ _ h => by first | exact h | cases h.1) (by rfl) (by kernel_rfl) (Or.inl ⟨by rfl, ?_⟩) (by first | exact HS.out | exact hS | exact hdx | exact ⟨hdx, hkx⟩) ?_
        rotate_left
        · (intro w' hw'; (try dsimp only at hw'); (have c0 := (boxed hw') 0 _ rfl; have c1 := (boxed hw') 1 _ rfl; have c2 := (boxed hw') 2 _ rfl; have c3 := (boxed hw') 3 _ rfl; have c4 := (boxed hw') 4 _ rfl); go_simp; first | done | with_reducible rfl)
        (try simp only [List.getElem_toArray, List.getElem_cons_zero, List.getElem_cons_succ, Act.put, List.setIfInBounds_toArray, List.set_cons_zero, List.set_cons_succ])
        refine wpAnyD_all (rs := [0]) (by kernel_rfl) (by simp) (AllD.cons rfl (by rfl) (fun K hK => ?_) AllD.nil)
        go_simp
        refine Calls.mono (atomref_c tPub _ _ (Nat.le_refl _) (by decide)) ?_
        rintro e wx ⟨aA1, an1, ac1, aA2, an2, ac2, aA3, an3, ac3, rfl, hq, hB⟩
        (try have pa := pa.keepI hB (by omega))
        (try have pb := pb.keepI hB (by omega))
        (try have pc := pc.keepI hB (by omega))
        (try have pd := pd.keepI hB (by omega))
        (try have pe := pe.keepI hB (by omega))
        (try have HE := Lib.hid (HE.out.keepI hB (by omega)))
        (try have HL := Lib.hid (HL.out.keepI hB (by omega)))
        (try have hdx := box_below hdx hB (Array.getElem?_eq_some_iff.1 hdx).1)
        (try have hrx := box_below hrx hB (Array.getElem?_eq_some_iff.1 hrx).1)
        (try have hkx := box_below hkx hB (Array.getElem?_eq_some_iff.1 hkx).1)
        (try have hix := box_below hix hB (Array.getElem?_eq_some_iff.1 hix).1)
        (try have hjx := box_below hjx hB (Array.getElem?_eq_some_iff.1 hjx).1)
        have HX := Lib.hid (below_then HX.out hB)
        have hz := hB.size
        have pa := hq
        clear hq hB
        simp only [treeV]
        refine hK.out _ _ (fun _ => hdx) ?_
        clear hK K
        (try simp only [List.getElem_toArray, List.getElem_cons_zero, List.getElem_cons_succ, Act.put, List.setIfInBounds_toArray, List.set_cons_zero, List.set_cons_succ])
        refine wpAnyD_all (rs := [2]) (by kernel_rfl) (by simp) (AllD.cons rfl (by rfl) (fun K hK => ?_) AllD.nil)
        go_simp
        have hB := Below.alloc (Below.refl wx.heap.size wx) (Nat.le_refl _) (.cells #[.bool (atomT tPub).list, .bool (atomT tPub).hinted, .slice aA1 an1 ac1, .slice aA2 an2 ac2, .slice aA3 an3 ac3, .bool true, .bool false, .slice none 0 0, .slice none 0 0, .slice (some ⟨gk, 0, none⟩) 2 2] 25)
        have hbn := box_new wx #[.bool (atomT tPub).list, .bool (atomT tPub).hinted, .slice aA1 an1 ac1, .slice aA2 an2 ac2, .slice aA3 an3 ac3, .bool true, .bool false, .slice none 0 0, .slice none 0 0, .slice (some ⟨gk, 0, none⟩) 2 2] 25
        (try have pa := pa.keepI hB (by omega))
        (try have pb := pb.keepI hB (by omega))
        (try have pc := pc.keepI hB (by omega))
        (try have pd := pd.keepI hB (by omega))
        (try have pe := pe.keepI hB (by omega))
        (try have HE := Lib.hid (HE.out.keepI hB (by omega)))
        (try have HL := Lib.hid (HL.out.keepI hB (by omega)))
        (try have hdx := box_below hdx hB (Array.getElem?_eq_some_iff.1 hdx).1)
        (try have hrx := box_below hrx hB (Array.getElem?_eq_some_iff.1 hrx).1)
        (try have hkx := box_below hkx hB (Array.getElem?_eq_some_iff.1 hkx).1)
        (try have hix := box_below hix hB (Array.getElem?_eq_some_iff.1 hix).1)
        (try have hjx := box_below hjx hB (Array.getElem?_eq_some_iff.1 hjx).1)
        have HX := Lib.hid (below_then HX.out hB)
        have hz := hB.size
        have hkx := hbn
        have hbl := (Array.getElem?_eq_some_iff.1 hbn).1
        clear hB hbn
        generalize hgm : wx.heap.size = gm at *
        generalize wx.alloc (.cells #[.bool (atomT tPub).list, .bool (atomT tPub).hinted, .slice aA1 an1 ac1, .slice aA2 an2 ac2, .slice aA3 an3 ac3, .bool true, .bool false, .slice none 0 0, .slice none 0 0, .slice (some ⟨gk, 0, none⟩) 2 2] 25) = wx at *
        refine hK.out _ _ (fun _ => hdx) ?_
        clear hK K
        (try simp only [List.getElem_toArray, List.getElem_cons_zero, List.getElem_cons_succ, Act.put, List.setIfInBounds_toArray, List.set_cons_zero, List.set_cons_succ])
        refine wpAnyD_take (i := 3) (v := ?_) rfl (by kernel_rfl) (by kernel_rfl) (by kernel_rfl) (by kernel_rfl) (fun _ _ _ h => by first | exact h | cases h.1) (by rfl) (by kernel_rfl) (Or.inl ⟨by rfl, ?_⟩) (by first | exact HS.out | exact hS | exact hdx | exact ⟨hdx, hkx⟩) ?_
        rotate_left
        · (intro w' hw'; (try dsimp only at hw'); skip; go_simp; first | done | with_reducible rfl)
        (try simp only [List.getElem_toArray, List.getElem_cons_zero, List.getElem_cons_succ, Act.put, List.setIfInBounds_toArray, List.set_cons_zero, List.set_cons_succ])
        refine wpAnyD_all (rs := [4]) (by kernel_rfl) (by simp) (AllD.cons rfl (by rfl) (fun K hK => ?_) AllD.nil)
        have hr0 := (boxed hrx) 0 _ rfl; have hr1 := (boxed hrx) 1 _ rfl; have hr2 := (boxed hrx) 2 _ rfl; have hr3 := (boxed hrx) 3 _ rfl; have hr4 := (boxed hrx) 4 _ rfl
        have hf0 := boxed_frozen hrx 0; have hf1 := boxed_frozen hrx 1; have hf2 := boxed_frozen hrx 2; have hf3 := boxed_frozen hrx 3; have hf4 := boxed_frozen hrx 4
        go_simp
        refine hK.out _ _ (fun h => absurd h (by decide)) ?_
        clear hK K
        (try simp only [List.getElem_toArray, List.getElem_cons_zero, List.getElem_cons_succ, Act.put, List.setIfInBounds_toArray, List.set_cons_zero, List.set_cons_succ])
        refine wpAnyD_done (by kernel_rfl) ?_ _
        go_wp2
        have HL := Lib.hid (sl_trees2 (t := atomT tEd) (u := atomT d) (S := fun b => b ≠ w.heap.size + 1 ∧ b < wx.heap.size) hjx ⟨by omega, by omega⟩ (pb.more fun b hb => ⟨by omega, by omega⟩) (pd.more fun b hb => ⟨by omega, by omega⟩))
        have pe : Parts wx (fun b => b ≠ w.heap.size + 1 ∧ b < wx.heap.size) (listT [atomT tEd, atomT d]) none 0 0 none 0 0 (some ⟨gk, 0, none⟩) 2 2 := ⟨Rep.sl_nil, Rep.sl_nil, HL.out⟩
        have HM := Lib.hid (sl_trees2 (t := atomT tPub) (u := listT [atomT tEd, atomT d]) (S := fun b => b ≠ w.heap.size + 1 ∧ b < wx.heap.size) hkx ⟨by omega, by omega⟩ (pa.more fun b hb => ⟨by omega, by omega⟩) pe)
        exact tree_ret2 (S := fun b => b ≠ w.heap.size + 1 ∧ b < wx.heap.size) (t := listT [atomT tPub, listT [atomT tEd, atomT d]]) (w2 := wx) (g := w.heap.size + 1) (by simp [results, Tryd.results20, go_sem, treeV, atomT, listT, Tree.list, Tree.hinted, put5, hr0, hr1, hr2, hr3, hr4]) rfl ⟨Rep.sl_nil, Rep.sl_nil, HM.out⟩ (fun b hb => ⟨Nat.zero_le _, hb.2, hb.1⟩) HX.out (by omega) (by omega)
    · go_simp
      have hB := Below.alloc (Below.refl wx.heap.size wx) (Nat.le_refl _) (.cells #[.bool false, .bool false, .slice none 0 0, .slice none 0 0, .slice none 0 0] 25)
      have hin := box_new wx #[.bool false, .bool false, .slice none 0 0, .slice none 0 0, .slice none 0 0] 25
      (try have pa := pa.keepI hB (by omega))
      (try have pb := pb.keepI hB (by omega))
      (try have pc := pc.keepI hB (by omega))
      (try have pd := pd.keepI hB (by omega))
      (try have pe := pe.keepI hB (by omega))
      (try have HE := Lib.hid (HE.out.keepI hB (by omega)))
      (try have HL := Lib.hid (HL.out.keepI hB (by omega)))
      (try have hdx := box_below hdx hB (Array.getElem?_eq_some_iff.1 hdx).1)
      (try have hrx := box_below hrx hB (Array.getElem?_eq_some_iff.1 hrx).1)
      (try have hkx := box_below hkx hB (Array.getElem?_eq_some_iff.1 hkx).1)
      (try have hix := box_below hix hB (Array.getElem?_eq_some_iff.1 hix).1)
      (try have hjx := box_below hjx hB (Array.getElem?_eq_some_iff.1 hjx).1)
      have HX := Lib.hid (below_then HX.out hB)
      have hz := hB.size
      have hix := hin
      have hgl := (Array.getElem?_eq_some_iff.1 hix).1
      clear hB hin
      generalize hgi : wx.heap.size = gi at *
      generalize wx.alloc (.cells #[.bool false, .bool false, .slice none 0 0, .slice none 0 0, .slice none 0 0] 25) = wx at *
      refine hK.out _ _ (fun _ => hdx) ?_
      clear hK K
      (try simp only [List.getElem_toArray, List.getElem_cons_zero, List.getElem_cons_succ, Act.put, List.setIfInBounds_toArray, List.set_cons_zero, List.set_cons_succ])
      refine wpAnyD_all (rs := [0]) (by kernel_rfl) (by simp) (AllD.cons rfl (by rfl) (fun K hK => ?_) AllD.nil)
      go_simp
      refine Calls.mono (atomref_c tEd _ _ (Nat.le_refl _) (by decide)) ?_
      rintro e wx ⟨bA1, bn1, bc1, bA2, bn2, bc2, bA3, bn3, bc3, rfl, hq, hB⟩
      (try have pa := pa.keepI hB (by omega))
      (try have pb := pb.keepI hB (by omega))
      (try have pc := pc.keepI hB (by omega))
      (try have pd := pd.keepI hB (by omega))
      (try have pe := pe.keepI hB (by omega))
      (try have HE := Lib.hid (HE.out.keepI hB (by omega)))
      (try have HL := Lib.hid (HL.out.keepI hB (by omega)))
      (try have hdx := box_below hdx hB (Array.getElem?_eq_some_iff.1 hdx).1)
      (try have hrx := box_below hrx hB (Array.getElem?_eq_some_iff.1 hrx).1)
      (try have hkx := box_below hkx hB (Array.getElem?_eq_some_iff.1 hkx).1)
      (try have hix := box_below hix hB (Array.getElem?_eq_some_iff.1 hix).1)
      (try have hjx := box_below hjx hB (Array.getElem?_eq_some_iff.1 hjx).1)
      have HX := Lib.hid (below_then HX.out hB)
      have hz := hB.size
      have pb := hq
      clear hq hB
      simp only [treeV]
      refine hK.out _ _ (fun _ => hdx) ?_
      clear hK K
      (try simp only [List.getElem_toArray, List.getElem_cons_zero, List.getElem_cons_succ, Act.put, List.setIfInBounds_toArray, List.set_cons_zero, List.set_cons_succ])
      refine wpAnyD_all (rs := [2]) (by kernel_rfl) (by simp) (AllD.cons rfl (by rfl) (fun K hK => ?_) AllD.nil)
      go_simp
      have hB := Below.alloc (Below.refl wx.heap.size wx) (Nat.le_refl _) (.cells #[.bool (atomT tEd).list, .bool (atomT tEd).hinted, .slice bA1 bn1 bc1, .slice bA2 bn2 bc2, .slice bA3 bn3 bc3, .bool false, .bool false, .slice none 0 0, .slice A n c, .slice none 0 0] 25)
      have hbn := box_new wx #[.bool (atomT tEd).list, .bool (atomT tEd).hinted, .slice bA1 bn1 bc1, .slice bA2 bn2 bc2, .slice bA3 bn3 bc3, .bool false, .bool false, .slice none 0 0, .slice A n c, .slice none 0 0] 25
      (try have pa := pa.keepI hB (by omega))
      (try have pb := pb.keepI hB (by omega))
      (try have pc := pc.keepI hB (by omega))
      (try have pd := pd.keepI hB (by omega))
      (try have pe := pe.keepI hB (by omega))
      (try have HE := Lib.hid (HE.out.keepI hB (by omega)))
      (try have HL := Lib.hid (HL.out.keepI hB (by omega)))
      (try have hdx := box_below hdx hB (Array.getElem?_eq_some_iff.1 hdx).1)
      (try have hrx := box_below hrx hB (Array.getElem?_eq_some_iff.1 hrx).1)
      (try have hkx := box_below hkx hB (Array.getElem?_eq_some_iff.1 hkx).1)
      (try have hix := box_below hix hB (Array.getElem?_eq_some_iff.1 hix).1)
      (try have hjx := box_below hjx hB (Array.getElem?_eq_some_iff.1 hjx).1)
      have HX := Lib.hid (below_then HX.out hB)
      have hz := hB.size
      have hjx := hbn
      have hbl := (Array.getElem?_eq_some_iff.1 hbn).1
      clear hB hbn
      generalize hgk : wx.heap.size = gk at *
      generalize wx.alloc (.cells #[.bool (atomT tEd).list, .bool (atomT tEd).hinted, .slice bA1 bn1 bc1, .slice bA2 bn2 bc2, .slice bA3 bn3 bc3, .bool false, .bool false, .slice none 0 0, .slice A n c, .slice none 0 0] 25) = wx at *
      refine hK.out _ _ (fun _ => hdx) ?_
      clear hK K
      (try simp only [List.getElem_toArray, List.getElem_cons_zero, List.getElem_cons_succ, Act.put, List.setIfInBounds_toArray, List.set_cons_zero, List.set_cons_succ])
      refine wpAnyD_take (i := 3) (v := ?_) rfl (by kernel_rfl) (by kernel_rfl) (by kernel_rfl) (by kernel_rfl) (fun _ _ _ h => by first | exact h | cases h.1) (by rfl) (by kernel_rfl) (Or.inl ⟨by rfl, ?_⟩) (by first | exact HS.out | exact hS | exact hdx | exact ⟨hdx, hkx⟩) ?_
      rotate_left
      · (intro w' hw'; (try dsimp only at hw'); skip; go_simp; first | done | with_reducible rfl)
      (try simp only [List.getElem_toArray, List.getElem_cons_zero, List.getElem_cons_succ, Act.put, List.setIfInBounds_toArray, List.set_cons_zero, List.set_cons_succ])
      refine wpAnyD_all (rs := [5]) (by kernel_rfl) (by simp) (AllD.cons rfl (by rfl) (fun K hK => ?_) AllD.nil)
      have hr0 := (boxed hix) 0 _ rfl; have hr1 := (boxed hix) 1 _ rfl; have hr2 := (boxed hix) 2 _ rfl; have hr3 := (boxed hix) 3 _ rfl; have hr4 := (boxed hix) 4 _ rfl
      have hf0 := boxed_frozen hix 0; have hf1 := boxed_frozen hix 1; have hf2 := boxed_frozen hix 2; have hf3 := boxed_frozen hix 3; have hf4 := boxed_frozen hix 4
      go_simp
      have hgr := put5_grown wx gi 0 (.bool true) (.bool false) (.slice none 0 0) (.slice none 0 0) (.slice (some ⟨gk, 0, none⟩) 2 2)
      have hnw := put5_box hix 0 (.bool true) (.bool false) (.slice none 0 0) (.slice none 0 0) (.slice (some ⟨gk, 0, none⟩) 2 2)
      clear hr0 hr1 hr2 hr3 hr4 hf0 hf1 hf2 hf3 hf4 hix
      (try have pa := pa.farI hgr (by omega) (by omega))
      (try have pb := pb.farI hgr (by omega) (by omega))
      (try have pc := pc.farI hgr (by omega) (by omega))
      (try have pd := pd.farI hgr (by omega) (by omega))
      (try have pe := pe.farI hgr (by omega) (by omega))
      (try have HE := Lib.hid (HE.out.farI hgr (by omega) (by omega)))
      (try have HL := Lib.hid (HL.out.farI hgr (by omega) (by omega)))
      (try have hdx := box_grown hdx hgr (by simp <;> omega))
      (try have hrx := box_grown hrx hgr (by simp <;> omega))
      (try have hkx := box_grown hkx hgr (by simp <;> omega))
      (try have hjx := box_grown hjx hgr (by simp <;> omega))
      (try have hix := box_grown hix hgr (by simp <;> omega))
      have HX := Lib.hid (HX.out.grown hgr (by omega) fun k hk => by injection hk; omega)
      have hz := hgr.size
      have hix := hnw
      clear hgr hnw
      refine hK.out _ _ (fun h => absurd h (by decide)) ?_
      clear hK K
      (try simp only [List.getElem_toArray, List.getElem_cons_zero, List.getElem_cons_succ, Act.put, List.setIfInBounds_toArray, List.set_cons_zero, List.set_cons_succ])
      generalize hpq : put5 wx gi 0 (.bool true) (.bool false) (.slice none 0 0) (.slice none 0 0) (.slice (some ⟨gk, 0, none⟩) 2 2) = w8 at *
      unfold put5 at hpq
      rw [hpq]
      clear hpq
      refine wpAnyD_done (by kernel_rfl) ?_ _
      go_wp2_with fail
      have hB := (Below.refl w8.heap.size w8).drew
      (try have pa := pa.keepI hB (by omega))
      (try have pb := pb.keepI hB (by omega))
      (try have pc := pc.keepI hB (by omega))
      (try have pd := pd.keepI hB (by omega))
      (try have pe := pe.keepI hB (by omega))
      (try have HE := Lib.hid (HE.out.keepI hB (by omega)))
      (try have HL := Lib.hid (HL.out.keepI hB (by omega)))
      (try have hdx := box_below hdx hB (Array.getElem?_eq_some_iff.1 hdx).1)
      (try have hrx := box_below hrx hB (Array.getElem?_eq_some_iff.1 hrx).1)
      (try have hkx := box_below hkx hB (Array.getElem?_eq_some_iff.1 hkx).1)
      (try have hix := box_below hix hB (Array.getElem?_eq_some_iff.1 hix).1)
      (try have hjx := box_below hjx hB (Array.getElem?_eq_some_iff.1 hjx).1)
      have HX := Lib.hid (below_then HX.out hB)
      have hz := hB.size
      clear hB hdx
      have hdx := hix
      have hS := hdx
      refine wp_region_D (fun w' => w'.heap[gi]? = some (.cells #[.bool true, .bool false, .slice none 0 0, .slice none 0 0, .slice (some ⟨gk, 0, none⟩) 2 2] 25 (0, 0))) [4] (by kernel_rfl) ?_
      generalize w8.drew = wx at *
      refine wpAnyD_take (i := 1) (v := ?_) rfl (by kernel_rfl) (by kernel_rfl) (by kernel_rfl) (by kernel_rfl) (fun _ _ _ h => by first | exact h | cases h.1) (by rfl) (by kernel_rfl) (Or.inl ⟨by rfl, ?_⟩) (by first | exact HS.out | exact hS | exact hdx | exact ⟨hdx, hkx⟩) ?_
      rotate_left
      · (intro w' hw'; (try dsimp only at hw'); (have c0 := (boxed hw') 0 _ rfl; have c1 := (boxed hw') 1 _ rfl; have c2 := (boxed hw') 2 _ rfl; have c3 := (boxed hw') 3 _ rfl; have c4 := (boxed hw') 4 _ rfl); go_simp; first | done | with_reducible rfl)
      (try simp only [List.getElem_toArray, List.getElem_cons_zero, List.getElem_cons_succ, Act.put, List.setIfInBounds_toArray, List.set_cons_zero, List.set_cons_succ])
      refine wpAnyD_all (rs := [0]) (by kernel_rfl) (by simp) (AllD.cons rfl (by rfl) (fun K hK => ?_) AllD.nil)
      go_simp
      refine Calls.mono (atomref_c tPub _ _ (Nat.le_refl _) (by decide)) ?_
      rintro e wx ⟨aA1, an1, ac1, aA2, an2, ac2, aA3, an3, ac3, rfl, hq, hB⟩
      (try have pa := pa.keepI hB (by omega))
      (try have pb := pb.keepI hB (by omega))
      (try have pc := pc.keepI hB (by omega))
      (try have pd := pd.keepI hB (by omega))
      (try have pe := pe.keepI hB (by omega))
      (try have HE := Lib.hid (HE.out.keepI hB (by omega)))
      (try have HL := Lib.hid (HL.out.keepI hB (by omega)))
      (try have hdx := box_below hdx hB (Array.getElem?_eq_some_iff.1 hdx).1)
      (try have hrx := box_below hrx hB (Array.getElem?_eq_some_iff.1 hrx).1)
      (try have hkx := box_below hkx hB (Array.getElem?_eq_some_iff.1 hkx).1)
      (try have hix := box_below hix hB (Array.getElem?_eq_some_iff.1 hix).1)
      (try have hjx := box_below hjx hB (Array.getElem?_eq_some_iff.1 hjx).1)
      have HX := Lib.hid (below_then HX.out hB)
      have hz := hB.size
      have pa := hq
      clear hq hB
      simp only [treeV]
      refine hK.out _ _ (fun _ => hdx) ?_
      clear hK K
      (try simp only [List.getElem_toArray, List.getElem_cons_zero, List.getElem_cons_succ, Act.put, List.setIfInBounds_toArray, List.set_cons_zero, List.set_cons_succ])
      refine wpAnyD_all (rs := [2]) (by kernel_rfl) (by simp) (AllD.cons rfl (by rfl) (fun K hK => ?_) AllD.nil)
      go_simp
      have hB := Below.alloc (Below.refl wx.heap.size wx) (Nat.le_refl _) (.cells #[.bool (atomT tPub).list, .bool (atomT tPub).hinted, .slice aA1 an1 ac1, .slice aA2 an2 ac2, .slice aA3 an3 ac3, .bool true, .bool false, .slice none 0 0, .slice none 0 0, .slice (some ⟨gk, 0, none⟩) 2 2] 25)
      have hbn := box_new wx #[.bool (atomT tPub).list, .bool (atomT tPub).hinted, .slice aA1 an1 ac1, .slice aA2 an2 ac2, .slice aA3 an3 ac3, .bool true, .bool false, .slice none 0 0, .slice none 0 0, .slice (some ⟨gk, 0, none⟩) 2 2] 25
      (try have pa := pa.keepI hB (by omega))
      (try have pb := pb.keepI hB (by omega))
      (try have pc := pc.keepI hB (by omega))
      (try have pd := pd.keepI hB (by omega))
      (try have pe := pe.keepI hB (by omega))
      (try have HE := Lib.hid (HE.out.keepI hB (by omega)))
      (try have HL := Lib.hid (HL.out.keepI hB (by omega)))
      (try have hdx := box_below hdx hB (Array.getElem?_eq_some_iff.1 hdx).1)
      (try have hrx := box_below hrx hB (Array.getElem?_eq_some_iff.1 hrx).1)
      (try have hkx := box_below hkx hB (Array.getElem?_eq_some_iff.1 hkx).1)
      (try have hix := box_below hix hB (Array.getElem?_eq_some_iff.1 hix).1)
      (try have hjx := box_below hjx hB (Array.getElem?_eq_some_iff.1 hjx).1)
      have HX := Lib.hid (below_then HX.out hB)
      have hz := hB.size
      have hkx := hbn
      have hbl := (Array.getElem?_eq_some_iff.1 hbn).1
      clear hB hbn
      generalize hgm : wx.heap.size = gm at *
      generalize wx.alloc (.cells #[.bool (atomT tPub).list, .bool (atomT tPub).hinted, .slice aA1 an1 ac1, .slice aA2 an2 ac2, .slice aA3 an3 ac3, .bool true, .bool false, .slice none 0 0, .slice none 0 0, .slice (some ⟨gk, 0, none⟩) 2 2] 25) = wx at *
      refine hK.out _ _ (fun _ => hdx) ?_
      clear hK K
      (try simp only [List.getElem_toArray, List.getElem_cons_zero, List.getElem_cons_succ, Act.put, List.setIfInBounds_toArray, List.set_cons_zero, List.set_cons_succ])
      refine wpAnyD_take (i := 3) (v := ?_) rfl (by kernel_rfl) (by kernel_rfl) (by kernel_rfl) (by kernel_rfl) (fun _ _ _ h => by first | exact h | cases h.1) (by rfl) (by kernel_rfl) (Or.inl ⟨by rfl, ?_⟩) (by first | exact HS.out | exact hS | exact hdx | exact ⟨hdx, hkx⟩) ?_
      rotate_left
      · (intro w' hw'; (try dsimp only at hw'); skip; go_simp; first | done | with_reducible rfl)
      (try simp only [List.getElem_toArray, List.getElem_cons_zero, List.getElem_cons_succ, Act.put, List.setIfInBounds_toArray, List.set_cons_zero, List.set_cons_succ])
      refine wpAnyD_all (rs := [4]) (by kernel_rfl) (by simp) (AllD.cons rfl (by rfl) (fun K hK => ?_) AllD.nil)
      have hr0 := (boxed hrx) 0 _ rfl; have hr1 := (boxed hrx) 1 _ rfl; have hr2 := (boxed hrx) 2 _ rfl; have hr3 := (boxed hrx) 3 _ rfl; have hr4 := (boxed hrx) 4 _ rfl
      have hf0 := boxed_frozen hrx 0; have hf1 := boxed_frozen hrx 1; have hf2 := boxed_frozen hrx 2; have hf3 := boxed_frozen hrx 3; have hf4 := boxed_frozen hrx 4
      go_simp
      refine hK.out _ _ (fun h => absurd h (by decide)) ?_
      clear hK K
      (try simp only [List.getElem_toArray, List.getElem_cons_zero, List.getElem_cons_succ, Act.put, List.setIfInBounds_toArray, List.set_cons_zero, List.set_cons_succ])
      refine wpAnyD_done (by kernel_rfl) ?_ _
      go_wp2
      have HL := Lib.hid (sl_trees2 (t := atomT tEd) (u := atomT d) (S := fun b => b ≠ w.heap.size + 1 ∧ b < wx.heap.size) hjx ⟨by omega, by omega⟩ (pb.more fun b hb => ⟨by omega, by omega⟩) (pd.more fun b hb => ⟨by omega, by omega⟩))
      have pe : Parts wx (fun b => b ≠ w.heap.size + 1 ∧ b < wx.heap.size) (listT [atomT tEd, atomT d]) none 0 0 none 0 0 (some ⟨gk, 0, none⟩) 2 2 := ⟨Rep.sl_nil, Rep.sl_nil, HL.out⟩
      have HM := Lib.hid (sl_trees2 (t := atomT tPub) (u := listT [atomT tEd, atomT d]) (S := fun b => b ≠ w.heap.size + 1 ∧ b < wx.heap.size) hkx ⟨by omega, by omega⟩ (pa.more fun b hb => ⟨by omega, by omega⟩) pe)
      exact tree_ret2 (S := fun b => b ≠ w.heap.size + 1 ∧ b < wx.heap.size) (t := listT [atomT tPub, listT [atomT tEd, atomT d]]) (w2 := wx) (g := w.heap.size + 1) (by simp [results, Tryd.results20, go_sem, treeV, atomT, listT, Tree.list, Tree.hinted, put5, hr0, hr1, hr2, hr3, hr4]) rfl ⟨Rep.sl_nil, Rep.sl_nil, HM.out⟩ (fun b hb => ⟨Nat.zero_le _, hb.2, hb.1⟩) HX.out (by omega) (by omega)
  · go_wp2_with fail
    have hrx := hrx0
    have HX := HX0
    clear hrx0 HX0
    generalize ((w.alloc (.cells #[.bool true, .slice A n c] 38)).alloc (.cells #[.bool false, .bool false, .slice none 0 0, .slice none 0 0, .slice none 0 0] 25)).alloc (.cells #[.bool false, .bool false, .slice none 0 0, .slice A n c, .slice none 0 0] 25) = w3 at *
    have hB := (Below.refl w3.heap.size w3).drew
    (try have pa := pa.keepI hB (by omega))
    (try have pb := pb.keepI hB (by omega))
    (try have pc := pc.keepI hB (by omega))
    (try have pd := pd.keepI hB (by omega))
    (try have pe := pe.keepI hB (by omega))
    (try have HE := Lib.hid (HE.out.keepI hB (by omega)))
    (try have HL := Lib.hid (HL.out.keepI hB (by omega)))
    (try have hdx := box_below hdx hB (Array.getElem?_eq_some_iff.1 hdx).1)
    (try have hrx := box_below hrx hB (Array.getElem?_eq_some_iff.1 hrx).1)
    (try have hkx := box_below hkx hB (Array.getElem?_eq_some_iff.1 hkx).1)
    (try have hix := box_below hix hB (Array.getElem?_eq_some_iff.1 hix).1)
    (try have hjx := box_below hjx hB (Array.getElem?_eq_some_iff.1 hjx).1)
    have HX := Lib.hid (below_then HX.out hB)
    have hz := hB.size
    have hS := hdx
    clear hB
    refine wp_region_D (fun w' => w'.heap[w.heap.size + 1 + 1]? = some (.cells #[.bool false, .bool false, .slice none 0 0, .slice A n c, .slice none 0 0] 25 (0, 0))) [5] (by kernel_rfl) ?_
    generalize w3.drew = wx at *
    refine wpAnyD_take (i := 2) (v := ?_) rfl (by kernel_rfl) (by kernel_rfl) (by kernel_rfl) (by kernel_rfl) (fun _ _ _ h => by first | exact h | cases h.1) (by rfl) (by kernel_rfl) (Or.inl ⟨by rfl, ?_⟩) (by first | exact HS.out | exact hS | exact hdx | exact ⟨hdx, hkx⟩) ?_
    rotate_left
    · (intro w' hw'; (try dsimp only at hw'); (have c0 := (boxed hw') 0 _ rfl; have c1 := (boxed hw') 1 _ rfl; have c2 := (boxed hw') 2 _ rfl; have c3 := (boxed hw') 3 _ rfl; have c4 := (boxed hw') 4 _ rfl); go_simp; first | done | with_reducible rfl)
    (try simp only [List.getElem_toArray, List.getElem_cons_zero, List.getElem_cons_succ, Act.put, List.setIfInBounds_toArray, List.set_cons_zero, List.set_cons_succ])
    refine wpAnyD_all (rs := [0]) (by kernel_rfl) (by simp) (AllD.cons rfl (by rfl) (fun K hK => ?_) AllD.nil)
    go_simp
    refine Calls.mono (atomref_c tHash _ _ (Nat.le_refl _) (by decide)) ?_
    rintro e wx ⟨aA1, an1, ac1, aA2, an2, ac2, aA3, an3, ac3, rfl, hq, hB⟩
    (try have pa := pa.keepI hB (by omega))
    (try have pb := pb.keepI hB (by omega))
    (try have pc := pc.keepI hB (by omega))
    (try have pd := pd.keepI hB (by omega))
    (try have pe := pe.keepI hB (by omega))
    (try have HE := Lib.hid (HE.out.keepI hB (by omega)))
    (try have HL := Lib.hid (HL.out.keepI hB (by omega)))
    (try have hdx := box_below hdx hB (Array.getElem?_eq_some_iff.1 hdx).1)
    (try have hrx := box_below hrx hB (Array.getElem?_eq_some_iff.1 hrx).1)
    (try have hkx := box_below hkx hB (Array.getElem?_eq_some_iff.1 hkx).1)
    (try have hix := box_below hix hB (Array.getElem?_eq_some_iff.1 hix).1)
    (try have hjx := box_below hjx hB (Array.getElem?_eq_some_iff.1 hjx).1)
    have HX := Lib.hid (below_then HX.out hB)
    have hz := hB.size
    have pa := hq
    clear hq hB
    simp only [treeV]
    refine hK.out _ _ (fun _ => hdx) ?_
    clear hK K
    (try simp only [List.getElem_toArray, List.getElem_cons_zero, List.getElem_cons_succ, Act.put, List.setIfInBounds_toArray, List.set_cons_zero, List.set_cons_succ])
    refine wpAnyD_all (rs := [1]) (by kernel_rfl) (by simp) (AllD.cons rfl (by rfl) (fun K hK => ?_) AllD.nil)
    go_simp
    refine Calls.mono (atomref_c tSha _ _ (Nat.le_refl _) (by decide)) ?_
    rintro e wx ⟨bA1, bn1, bc1, bA2, bn2, bc2, bA3, bn3, bc3, rfl, hq, hB⟩
    (try have pa := pa.keepI hB (by omega))
    (try have pb := pb.keepI hB (by omega))
    (try have pc := pc.keepI hB (by omega))
    (try have pd := pd.keepI hB (by omega))
    (try have pe := pe.keepI hB (by omega))
    (try have HE := Lib.hid (HE.out.keepI hB (by omega)))
    (try have HL := Lib.hid (HL.out.keepI hB (by omega)))
    (try have hdx := box_below hdx hB (Array.getElem?_eq_some_iff.1 hdx).1)
    (try have hrx := box_below hrx hB (Array.getElem?_eq_some_iff.1 hrx).1)
    (try have hkx := box_below hkx hB (Array.getElem?_eq_some_iff.1 hkx).1)
    (try have hix := box_below hix hB (Array.getElem?_eq_some_iff.1 hix).1)
    (try have hjx := box_below hjx hB (Array.getElem?_eq_some_iff.1 hjx).1)
    have HX := Lib.hid (below_then HX.out hB)
    have hz := hB.size
    have pb := hq
    clear hq hB
    simp only [treeV]
    refine hK.out _ _ (fun _ => hdx) ?_
    clear hK K
    (try simp only [List.getElem_toArray, List.getElem_cons_zero, List.getElem_cons_succ, Act.put, List.setIfInBounds_toArray, List.set_cons_zero, List.set_cons_succ])
    refine wpAnyD_all (rs := [3]) (by kernel_rfl) (by simp) (AllD.cons rfl (by rfl) (fun K hK => ?_) AllD.nil)
    go_simp
    have hB := Below.alloc (Below.refl wx.heap.size wx) (Nat.le_refl _) (.cells #[.bool (atomT tHash).list, .bool (atomT tHash).hinted, .slice aA1 an1 ac1, .slice aA2 an2 ac2, .slice aA3 an3 ac3, .bool (atomT tSha).list, .bool (atomT tSha).hinted, .slice bA1 bn1 bc1, .slice bA2 bn2 bc2, .slice bA3 bn3 bc3, .bool false, .bool false, .slice none 0 0, .slice A n c, .slice none 0 0] 25)
    have hbn := box_new wx #[.bool (atomT tHash).list, .bool (atomT tHash).hinted, .slice aA1 an1 ac1, .slice aA2 an2 ac2, .slice aA3 an3 ac3, .bool (atomT tSha).list, .bool (atomT tSha).hinted, .slice bA1 bn1 bc1, .slice bA2 bn2 bc2, .slice bA3 bn3 bc3, .bool false, .bool false, .slice none 0 0, .slice A n c, .slice none 0 0] 25
    obtain ⟨gk, hgk⟩ : ∃ gk, gk = wx.heap.size := ⟨_, rfl⟩
    rw [← hgk] at hbn ⊢
    (try have pa := pa.keepI hB (by omega))
    (try have pb := pb.keepI hB (by omega))
    (try have pc := pc.keepI hB (by omega))
    (try have pd := pd.keepI hB (by omega))
    (try have pe := pe.keepI hB (by omega))
    (try have HE := Lib.hid (HE.out.keepI hB (by omega)))
    (try have HL := Lib.hid (HL.out.keepI hB (by omega)))
    (try have hdx := box_below hdx hB (Array.getElem?_eq_some_iff.1 hdx).1)
    (try have hrx := box_below hrx hB (Array.getElem?_eq_some_iff.1 hrx).1)
    (try have hkx := box_below hkx hB (Array.getElem?_eq_some_iff.1 hkx).1)
    (try have hix := box_below hix hB (Array.getElem?_eq_some_iff.1 hix).1)
    (try have hjx := box_below hjx hB (Array.getElem?_eq_some_iff.1 hjx).1)
    have HX := Lib.hid (below_then HX.out hB)
    have hz := hB.size
    have hbl := (Array.getElem?_eq_some_iff.1 hbn).1
    have HL := Lib.hid (sl_trees3 (S := fun b => b ≠ w.heap.size + 1 ∧ b < _) hbn ⟨by omega, hbl⟩ (pa.more fun b hb => ⟨by omega, by omega⟩) (pb.more fun b hb => ⟨by omega, by omega⟩) (pd.more fun b hb => ⟨by omega, by omega⟩))
    clear hB hbn
    generalize wx.alloc (.cells #[.bool (atomT tHash).list, .bool (atomT tHash).hinted, .slice aA1 an1 ac1, .slice aA2 an2 ac2, .slice aA3 an3 ac3, .bool (atomT tSha).list, .bool (atomT tSha).hinted, .slice bA1 bn1 bc1, .slice bA2 bn2 bc2, .slice bA3 bn3 bc3, .bool false, .bool false, .slice none 0 0, .slice A n c, .slice none 0 0] 25) = wx at *
    refine hK.out _ _ (fun _ => hdx) ?_
    clear hK K
    (try simp only [List.getElem_toArray, List.getElem_cons_zero, List.getElem_cons_succ, Act.put, List.setIfInBounds_toArray, List.set_cons_zero, List.set_cons_succ])
    refine wpAnyD_take (i := 4) (v := ?_) rfl (by kernel_rfl) (by kernel_rfl) (by kernel_rfl) (by kernel_rfl) (fun _ _ _ h => by first | exact h | cases h.1) (by rfl) (by kernel_rfl) (Or.inl ⟨by rfl, ?_⟩) (by first | exact HS.out | exact hS | exact hdx | exact ⟨hdx, hkx⟩) ?_
    rotate_left
    · (intro w' hw'; (try dsimp only at hw'); skip; go_simp; first | done | with_reducible rfl)
    (try simp only [List.getElem_toArray, List.getElem_cons_zero, List.getElem_cons_succ, Act.put, List.setIfInBounds_toArray, List.set_cons_zero, List.set_cons_succ])
    refine wpAnyD_all (rs := [5]) (by kernel_rfl) (by simp) (AllD.cons rfl (by rfl) (fun K hK => ?_) AllD.nil)
    have hr0 := (boxed hrx) 0 _ rfl; have hr1 := (boxed hrx) 1 _ rfl; have hr2 := (boxed hrx) 2 _ rfl; have hr3 := (boxed hrx) 3 _ rfl; have hr4 := (boxed hrx) 4 _ rfl
    have hf0 := boxed_frozen hrx 0; have hf1 := boxed_frozen hrx 1; have hf2 := boxed_frozen hrx 2; have hf3 := boxed_frozen hrx 3; have hf4 := boxed_frozen hrx 4
    go_simp
    refine hK.out _ _ (fun h => absurd h (by decide)) ?_
    clear hK K
    (try simp only [List.getElem_toArray, List.getElem_cons_zero, List.getElem_cons_succ, Act.put, List.setIfInBounds_toArray, List.set_cons_zero, List.set_cons_succ])
    refine wpAnyD_done (by kernel_rfl) ?_ _
    go_wp2
    subst hgk
    exact tree_ret2 (S := fun b => b ≠ w.heap.size + 1 ∧ b < wx.heap.size) (t := listT [atomT tHash, atomT tSha, atomT d]) (w2 := wx) (g := w.heap.size + 1) (by simp [results, Tryd.results20, go_sem, treeV, atomT, listT, Tree.list, Tree.hinted, put5, hr0, hr1, hr2, hr3, hr4]) rfl ⟨Rep.sl_nil, Rep.sl_nil, HL.out⟩ (fun b hb => ⟨Nat.zero_le _, hb.2, hb.1⟩) HX.out (by omega) (by omega)
end Go.Proofs.YtdakeodebgggfaaDoor
