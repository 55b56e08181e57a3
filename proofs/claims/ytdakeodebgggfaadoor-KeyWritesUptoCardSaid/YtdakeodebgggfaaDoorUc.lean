/- A principal's value, as the program puts it. -/
import Derived.Test.YtdakeodebgggfaaDoorUb
namespace Go.Proofs.YtdakeodebgggfaaDoor
open Go.RowKit
set_option linter.unusedVariables false
set_option linter.unusedSimpArgs false

def zeroT : Tree := .mk false false [] [] []
def keyOut (s : Bool) (d : List UInt8) : Tree := if keyMay s d then keyV s d else zeroT
def keyErr (s : Bool) (d : List UInt8) : Int := if keyMay s d then 0 else 7
set_option maxHeartbeats 2000000 in
set_option maxRecDepth 100000 in
theorem kput_c (s : Bool) (d : List UInt8) (A : Option Addr) (n c : Nat) (w : World) (base : Nat) (hb : base ≤ w.heap.size) (hs : Rep.u8.sl w (fun b => b < w.heap.size) A n c d) (hn : n ≤ 1000000000) :
    Calls Tryd.prog 15 #[.agg #[.bool s, .slice A n c]] w (TreeE w base (keyOut s d) (keyErr s d)) := by
  have hkx0 := box_alloc (box_new w #[.bool s, .slice A n c] 38) (.cells #[.bool false, .bool false, .slice none 0 0, .slice none 0 0, .slice none 0 0] 25)
  have hrx0 := box_new1 (w := w) (o := .cells #[.bool s, .slice A n c] 38) (cs := #[.bool false, .bool false, .slice none 0 0, .slice none 0 0, .slice none 0 0]) (t := 25)
  have HX0 := Lib.hid ((Below.alloc (Below.refl _ w) (Nat.le_refl _) (.cells #[.bool s, .slice A n c] 38)).alloc (by simp only [World.size_alloc]; omega) (.cells #[.bool false, .bool false, .slice none 0 0, .slice none 0 0, .slice none 0 0] 25))
  have HS := Lib.hid (sl_later hs HX0.out)
  have HN := Lib.hid hs.1
  clear hs
  go_enter Tryd.func15, Tryd.ntmps15
  go_wp2_with fail
  refine Calls.mono (bclone_c d A n c _ HS.out hn) ?_
  rintro e w2 ⟨v, rfl, ho, hB⟩
  obtain ⟨AD, cD, rfl, hsl⟩ := ho.sl_all
  have HD0 := Lib.hid ho.sl_in
  have hkx := box_below hkx0 hB (by simp only [World.size_alloc]; omega)
  have hrx := box_below hrx0 hB (by simp only [World.size_alloc]; omega)
  have HX := Lib.hid (below_then HX0.out hB)
  have hz := hB.size
  simp only [World.size_alloc] at hz
  clear ho hsl hB hkx0 hrx0 HX0
  have HDL := Lib.hid HN.out
  generalize hdl : d.length = dl at *
  clear HN
  have hk0 := (boxed hkx) 0 _ rfl; have hk1 := (boxed hkx) 1 _ rfl
  have hl1 : w.heap.size < w2.heap.size := by omega
  have hl2 : w.heap.size + 1 < w2.heap.size := by omega
  go_wp2_with fail
  refine Calls.mono (keymay_c s d A n c _ (hdl.trans HDL.out)) ?_
  rintro e w3 ⟨rfl, hB⟩
  have hdx := box_below (box_new w2 #[.bool false, .bool false, .slice none 0 0, .slice AD dl cD, .slice none 0 0] 25) hB (by simp only [World.size_alloc]; omega)
  have HD : Hid (Rep.u8.sl w3 (fun b => w.heap.size + 2 ≤ b ∧ b < w2.heap.size) AD dl cD d) := Rep.sl_below (Rep.sl_below (Rep.sl_more HD0.out fun b hb => by simp only [World.size_alloc] at hb; exact hb) (Below.alloc (Below.refl _ w2) (Nat.le_refl _) _) fun b hb => hb.2) hB fun b hb => by simp only [World.size_alloc]; omega
  have hrx := box_below (box_alloc hrx (.cells #[.bool false, .bool false, .slice none 0 0, .slice AD dl cD, .slice none 0 0] 25)) hB (by simp only [World.size_alloc]; omega)
  have hkx := box_below (box_alloc hkx (.cells #[.bool false, .bool false, .slice none 0 0, .slice AD dl cD, .slice none 0 0] 25)) hB (by simp only [World.size_alloc]; omega)
  have HX := Lib.hid (below_then (HX.out.alloc HX.out.size (.cells #[.bool false, .bool false, .slice none 0 0, .slice AD dl cD, .slice none 0 0] 25)) hB)
  have hlz : w.heap.size + 2 ≤ w3.heap.size := Nat.le_trans (Nat.le_trans hz (by simp only [World.size_alloc]; omega)) hB.size
  have hgd : w.heap.size + 2 ≤ w2.heap.size := hz
  clear HD0 hB hk0 hk1 hl1 hl2 hz HS
  generalize w2.heap.size = gd at *
  cases hm : keyMay s d with
  | false =>
    have HO : Hid (keyOut s d = zeroT ∧ keyErr s d = 7) := by
      refine ⟨?_, ?_⟩
      · rw [keyOut, hm]; rfl
      · rw [keyErr, hm]; rfl
    clear hm
    have hr0 := (boxed hrx) 0 _ rfl; have hr1 := (boxed hrx) 1 _ rfl; have hr2 := (boxed hrx) 2 _ rfl; have hr3 := (boxed hrx) 3 _ rfl; have hr4 := (boxed hrx) 4 _ rfl
    have hf0 := boxed_frozen hrx 0; have hf1 := boxed_frozen hrx 1; have hf2 := boxed_frozen hrx 2; have hf3 := boxed_frozen hrx 3; have hf4 := boxed_frozen hrx 4
    go_wp2
    rw [HO.out.1, HO.out.2]
    exact treeE_ret2 (t := zeroT) (w2 := w3) (g := w.heap.size + 1) (by simp [results, Tryd.results15, go_sem, treeV, atomT, listT, Tree.list, Tree.hinted, put5, zeroT, hr0, hr1, hr2, hr3, hr4]) rfl ⟨Rep.sl_nil, Rep.sl_nil, Rep.sl_nil⟩ (fun b (hb : False) => hb.elim) HX.out (by omega) (by omega)
  | true =>
    have HO : Hid (keyOut s d = keyV s d ∧ keyErr s d = 0) := by
      refine ⟨?_, ?_⟩
      · rw [keyOut, hm]; rfl
      · rw [keyErr, hm]; rfl
    clear hm
    have hk0 := (boxed hkx) 0 _ rfl; have hk1 := (boxed hkx) 1 _ rfl
    cases s
    · go_wp2_with fail
      have hB := (Below.refl w3.heap.size w3).drew
      (try have HD := Lib.hid (Rep.sl_below HD.out hB (fun b hb => Nat.lt_trans hb.2 (Array.getElem?_eq_some_iff.1 hdx).1)))
      (try have hdx := box_below hdx hB (Array.getElem?_eq_some_iff.1 hdx).1)
      (try have hrx := box_below hrx hB (Array.getElem?_eq_some_iff.1 hrx).1)
      (try have hkx := box_below hkx hB (Array.getElem?_eq_some_iff.1 hkx).1)
      (try have pa := pa.next hB)
      (try have pb := pb.next hB)
      (try have pc := pc.next hB)
      (try have pd := pd.next hB)
      (try have pe := pe.next hB)
      have HX := Lib.hid (below_then HX.out hB)
      have hlz := Nat.le_trans hlz hB.size
      clear hB hk0 hk1 hkx
      have hS := hdx
      refine wp_region_D (fun w' => w'.heap[gd]? = some (.cells #[.bool false, .bool false, .slice none 0 0, .slice AD dl cD, .slice none 0 0] 25 (0, 0))) [7] (by kernel_rfl) ?_
      refine wpAnyD_take (i := 2) (v := ?_) rfl (by kernel_rfl) (by kernel_rfl) (by kernel_rfl) (by kernel_rfl) (fun _ _ _ h => by first | exact h | cases h.1) (by rfl) (by kernel_rfl) (Or.inl ⟨by rfl, ?_⟩) (by first | exact HS.out | exact hS | exact hdx | exact ⟨hdx, hkx⟩) ?_
      rotate_left
      · (intro w' hw'; (try dsimp only at hw'); (have c0 := (boxed hw') 0 _ rfl; have c1 := (boxed hw') 1 _ rfl; have c2 := (boxed hw') 2 _ rfl; have c3 := (boxed hw') 3 _ rfl; have c4 := (boxed hw') 4 _ rfl); go_simp; first | done | with_reducible rfl)
      (try simp only [List.getElem_toArray, List.getElem_cons_zero, List.getElem_cons_succ, Act.put, List.setIfInBounds_toArray, List.set_cons_zero, List.set_cons_succ])
      refine wpAnyD_all (rs := [0]) (by kernel_rfl) (by simp) (AllD.cons rfl (by rfl) (fun K hK => ?_) AllD.nil)
      go_simp
      refine Calls.mono (atomsx_c tPub _ (w.heap.size + 2) hlz (by decide)) ?_
      rintro e wx ⟨aA1, an1, ac1, aA2, an2, ac2, aA3, an3, ac3, rfl, hq, hB⟩
      (try have HD := Lib.hid (Rep.sl_below HD.out hB (fun b hb => Nat.lt_trans hb.2 (Array.getElem?_eq_some_iff.1 hdx).1)))
      (try have hdx := box_below hdx hB (Array.getElem?_eq_some_iff.1 hdx).1)
      (try have hrx := box_below hrx hB (Array.getElem?_eq_some_iff.1 hrx).1)
      (try have hkx := box_below hkx hB (Array.getElem?_eq_some_iff.1 hkx).1)
      (try have pa := pa.next hB)
      (try have pb := pb.next hB)
      (try have pc := pc.next hB)
      (try have pd := pd.next hB)
      (try have pe := pe.next hB)
      have HX := Lib.hid (below_then HX.out hB)
      have hlz := Nat.le_trans hlz hB.size
      have pa := hq
      clear hq hB
      simp only [treeV]
      refine hK.out _ _ (fun _ => hdx) ?_
      clear hK K
      (try simp only [List.getElem_toArray, List.getElem_cons_zero, List.getElem_cons_succ, Act.put, List.setIfInBounds_toArray, List.set_cons_zero, List.set_cons_succ])
      refine wpAnyD_all (rs := [1]) (by kernel_rfl) (by simp) (AllD.cons rfl (by rfl) (fun K hK => ?_) AllD.nil)
      go_simp
      refine Calls.mono (atomsx_c tEd _ (w.heap.size + 2) hlz (by decide)) ?_
      rintro e wx ⟨bA1, bn1, bc1, bA2, bn2, bc2, bA3, bn3, bc3, rfl, hq, hB⟩
      (try have HD := Lib.hid (Rep.sl_below HD.out hB (fun b hb => Nat.lt_trans hb.2 (Array.getElem?_eq_some_iff.1 hdx).1)))
      (try have hdx := box_below hdx hB (Array.getElem?_eq_some_iff.1 hdx).1)
      (try have hrx := box_below hrx hB (Array.getElem?_eq_some_iff.1 hrx).1)
      (try have hkx := box_below hkx hB (Array.getElem?_eq_some_iff.1 hkx).1)
      (try have pa := pa.next hB)
      (try have pb := pb.next hB)
      (try have pc := pc.next hB)
      (try have pd := pd.next hB)
      (try have pe := pe.next hB)
      have HX := Lib.hid (below_then HX.out hB)
      have hlz := Nat.le_trans hlz hB.size
      have pb := hq
      clear hq hB
      simp only [treeV]
      refine hK.out _ _ (fun _ => hdx) ?_
      clear hK K
      (try simp only [List.getElem_toArray, List.getElem_cons_zero, List.getElem_cons_succ, Act.put, List.setIfInBounds_toArray, List.set_cons_zero, List.set_cons_succ])
      refine wpAnyD_all (rs := [3]) (by kernel_rfl) (by simp) (AllD.cons rfl (by rfl) (fun K hK => ?_) AllD.nil)
      go_simp
      have pd : Parts wx (fun b => w.heap.size + 2 ≤ b ∧ b < wx.heap.size) (atomT d) none 0 0 AD dl cD none 0 0 := ⟨Rep.sl_nil, Rep.sl_more HD.out (fun b hb => ⟨hb.1, Nat.lt_trans hb.2 (Array.getElem?_eq_some_iff.1 hdx).1⟩), Rep.sl_nil⟩
      have hB := Below.alloc (Below.refl wx.heap.size wx) (Nat.le_refl _) (.cells #[.bool (atomT tEd).list, .bool (atomT tEd).hinted, .slice bA1 bn1 bc1, .slice bA2 bn2 bc2, .slice bA3 bn3 bc3, .bool (atomT d).list, .bool (atomT d).hinted, .slice none 0 0, .slice AD dl cD, .slice none 0 0] 25)
      have hbn := box_new wx #[.bool (atomT tEd).list, .bool (atomT tEd).hinted, .slice bA1 bn1 bc1, .slice bA2 bn2 bc2, .slice bA3 bn3 bc3, .bool (atomT d).list, .bool (atomT d).hinted, .slice none 0 0, .slice AD dl cD, .slice none 0 0] 25
      (try have HD := Lib.hid (Rep.sl_below HD.out hB (fun b hb => Nat.lt_trans hb.2 (Array.getElem?_eq_some_iff.1 hdx).1)))
      (try have hdx := box_below hdx hB (Array.getElem?_eq_some_iff.1 hdx).1)
      (try have hrx := box_below hrx hB (Array.getElem?_eq_some_iff.1 hrx).1)
      (try have hkx := box_below hkx hB (Array.getElem?_eq_some_iff.1 hkx).1)
      (try have pa := pa.next hB)
      (try have pb := pb.next hB)
      (try have pc := pc.next hB)
      (try have pd := pd.next hB)
      (try have pe := pe.next hB)
      have HX := Lib.hid (below_then HX.out hB)
      have hlz := Nat.le_trans hlz hB.size
      have HL := Lib.hid (sl_trees2 (S := fun b => w.heap.size + 2 ≤ b ∧ b < _) hbn ⟨by omega, (Array.getElem?_eq_some_iff.1 hbn).1⟩ pb pd)
      clear hB hbn
      refine hK.out _ _ (fun _ => hdx) ?_
      clear hK K
      (try simp only [List.getElem_toArray, List.getElem_cons_zero, List.getElem_cons_succ, Act.put, List.setIfInBounds_toArray, List.set_cons_zero, List.set_cons_succ])
      refine wpAnyD_all (rs := [4]) (by kernel_rfl) (by simp) (AllD.cons rfl (by rfl) (fun K hK => ?_) AllD.nil)
      go_simp
      refine Calls.mono (listsx_c _ _ _ _ _ (w.heap.size + 2) hlz HL.out (by decide)) ?_
      rintro e wx ⟨cA1, cn1, cc1, cA2, cn2, cc2, cA3, cn3, cc3, rfl, hq, hB⟩
      (try have HD := Lib.hid (Rep.sl_below HD.out hB (fun b hb => Nat.lt_trans hb.2 (Array.getElem?_eq_some_iff.1 hdx).1)))
      (try have hdx := box_below hdx hB (Array.getElem?_eq_some_iff.1 hdx).1)
      (try have hrx := box_below hrx hB (Array.getElem?_eq_some_iff.1 hrx).1)
      (try have hkx := box_below hkx hB (Array.getElem?_eq_some_iff.1 hkx).1)
      (try have pa := pa.next hB)
      (try have pb := pb.next hB)
      (try have pc := pc.next hB)
      (try have pd := pd.next hB)
      (try have pe := pe.next hB)
      have HX := Lib.hid (below_then HX.out hB)
      have hlz := Nat.le_trans hlz hB.size
      have pc := hq
      clear hq hB HL
      simp only [treeV]
      refine hK.out _ _ (fun _ => hdx) ?_
      clear hK K
      (try simp only [List.getElem_toArray, List.getElem_cons_zero, List.getElem_cons_succ, Act.put, List.setIfInBounds_toArray, List.set_cons_zero, List.set_cons_succ])
      refine wpAnyD_all (rs := [5]) (by kernel_rfl) (by simp) (AllD.cons rfl (by rfl) (fun K hK => ?_) AllD.nil)
      go_simp
      have hB := Below.alloc (Below.refl wx.heap.size wx) (Nat.le_refl _) (.cells #[.bool (atomT tPub).list, .bool (atomT tPub).hinted, .slice aA1 an1 ac1, .slice aA2 an2 ac2, .slice aA3 an3 ac3, .bool (listT [atomT tEd, atomT d]).list, .bool (listT [atomT tEd, atomT d]).hinted, .slice cA1 cn1 cc1, .slice cA2 cn2 cc2, .slice cA3 cn3 cc3] 25)
      have hbn := box_new wx #[.bool (atomT tPub).list, .bool (atomT tPub).hinted, .slice aA1 an1 ac1, .slice aA2 an2 ac2, .slice aA3 an3 ac3, .bool (listT [atomT tEd, atomT d]).list, .bool (listT [atomT tEd, atomT d]).hinted, .slice cA1 cn1 cc1, .slice cA2 cn2 cc2, .slice cA3 cn3 cc3] 25
      (try have HD := Lib.hid (Rep.sl_below HD.out hB (fun b hb => Nat.lt_trans hb.2 (Array.getElem?_eq_some_iff.1 hdx).1)))
      (try have hdx := box_below hdx hB (Array.getElem?_eq_some_iff.1 hdx).1)
      (try have hrx := box_below hrx hB (Array.getElem?_eq_some_iff.1 hrx).1)
      (try have hkx := box_below hkx hB (Array.getElem?_eq_some_iff.1 hkx).1)
      (try have pa := pa.next hB)
      (try have pb := pb.next hB)
      (try have pc := pc.next hB)
      (try have pd := pd.next hB)
      (try have pe := pe.next hB)
      have HX := Lib.hid (below_then HX.out hB)
      have hlz := Nat.le_trans hlz hB.size
      have HL := Lib.hid (sl_trees2 (S := fun b => w.heap.size + 2 ≤ b ∧ b < _) hbn ⟨by omega, (Array.getElem?_eq_some_iff.1 hbn).1⟩ pa pc)
      clear hB hbn
      refine hK.out _ _ (fun _ => hdx) ?_
      clear hK K
      (try simp only [List.getElem_toArray, List.getElem_cons_zero, List.getElem_cons_succ, Act.put, List.setIfInBounds_toArray, List.set_cons_zero, List.set_cons_succ])
      refine wpAnyD_all (rs := [6]) (by kernel_rfl) (by simp) (AllD.cons rfl (by rfl) (fun K hK => ?_) AllD.nil)
      go_simp
      refine Calls.mono (listsx_c _ _ _ _ _ (w.heap.size + 2) hlz HL.out (by decide)) ?_
      rintro e wx ⟨eA1, en1, ec1, eA2, en2, ec2, eA3, en3, ec3, rfl, hq, hB⟩
      (try have HD := Lib.hid (Rep.sl_below HD.out hB (fun b hb => Nat.lt_trans hb.2 (Array.getElem?_eq_some_iff.1 hdx).1)))
      (try have hdx := box_below hdx hB (Array.getElem?_eq_some_iff.1 hdx).1)
      (try have hrx := box_below hrx hB (Array.getElem?_eq_some_iff.1 hrx).1)
      (try have hkx := box_below hkx hB (Array.getElem?_eq_some_iff.1 hkx).1)
      (try have pa := pa.next hB)
      (try have pb := pb.next hB)
      (try have pc := pc.next hB)
      (try have pd := pd.next hB)
      (try have pe := pe.next hB)
      have HX := Lib.hid (below_then HX.out hB)
      have hlz := Nat.le_trans hlz hB.size
      have pe := hq
      clear hq hB HL
      simp only [treeV]
      refine hK.out _ _ (fun _ => hdx) ?_
      clear hK K
      (try simp only [List.getElem_toArray, List.getElem_cons_zero, List.getElem_cons_succ, Act.put, List.setIfInBounds_toArray, List.set_cons_zero, List.set_cons_succ])
      refine wpAnyD_all (rs := [7]) (by kernel_rfl) (by simp) (AllD.cons rfl (by rfl) (fun K hK => ?_) AllD.nil)
      have hr0 := (boxed hrx) 0 _ rfl; have hr1 := (boxed hrx) 1 _ rfl; have hr2 := (boxed hrx) 2 _ rfl; have hr3 := (boxed hrx) 3 _ rfl; have hr4 := (boxed hrx) 4 _ rfl
      have hf0 := boxed_frozen hrx 0; have hf1 := boxed_frozen hrx 1; have hf2 := boxed_frozen hrx 2; have hf3 := boxed_frozen hrx 3; have hf4 := boxed_frozen hrx 4
      go_simp
      refine hK.out _ _ (fun h => absurd h (by decide)) ?_
      clear hK K
      (try simp only [List.getElem_toArray, List.getElem_cons_zero, List.getElem_cons_succ, Act.put, List.setIfInBounds_toArray, List.set_cons_zero, List.set_cons_succ])
      refine wpAnyD_takeY (i := 8) (v := ?_) rfl (by kernel_rfl) (by kernel_rfl) (by kernel_rfl) (fun _ _ _ h => by first | exact h | cases h.1) (by kernel_rfl) (Or.inl ⟨by rfl, ?_⟩) ?_
      rotate_left
      · (intro w' hw'; go_simp; first | done | with_reducible rfl)
      (try simp only [List.getElem_toArray, List.getElem_cons_zero, List.getElem_cons_succ, Act.put, List.setIfInBounds_toArray, List.set_cons_zero, List.set_cons_succ])
      refine wpAnyD_done (by kernel_rfl) ?_ _
      go_wp2
      rw [HO.out.1, HO.out.2]
      exact treeE_ret2 (t := listT [atomT tPub, listT [atomT tEd, atomT d]]) (w2 := wx) (g := w.heap.size + 1) (by simp [results, Tryd.results15, go_sem, treeV, atomT, listT, Tree.list, Tree.hinted, put5, hr0, hr1, hr2, hr3, hr4]) rfl pe (fun b hb => by omega) HX.out (by omega) (by omega)
    · go_wp2_with fail
      have hB := (Below.refl w3.heap.size w3).drew
      (try have HD := Lib.hid (Rep.sl_below HD.out hB (fun b hb => Nat.lt_trans hb.2 (Array.getElem?_eq_some_iff.1 hdx).1)))
      (try have hdx := box_below hdx hB (Array.getElem?_eq_some_iff.1 hdx).1)
      (try have hrx := box_below hrx hB (Array.getElem?_eq_some_iff.1 hrx).1)
      (try have hkx := box_below hkx hB (Array.getElem?_eq_some_iff.1 hkx).1)
      (try have pa := pa.next hB)
      (try have pb := pb.next hB)
      (try have pc := pc.next hB)
      (try have pd := pd.next hB)
      (try have pe := pe.next hB)
      have HX := Lib.hid (below_then HX.out hB)
      have hlz := Nat.le_trans hlz hB.size
      clear hB hk0 hk1 hkx
      have hS := hdx
      refine wp_region_D (fun w' => w'.heap[gd]? = some (.cells #[.bool false, .bool false, .slice none 0 0, .slice AD dl cD, .slice none 0 0] 25 (0, 0))) [5] (by kernel_rfl) ?_
      refine wpAnyD_take (i := 2) (v := ?_) rfl (by kernel_rfl) (by kernel_rfl) (by kernel_rfl) (by kernel_rfl) (fun _ _ _ h => by first | exact h | cases h.1) (by rfl) (by kernel_rfl) (Or.inl ⟨by rfl, ?_⟩) (by first | exact HS.out | exact hS | exact hdx | exact ⟨hdx, hkx⟩) ?_
      rotate_left
      · (intro w' hw'; (try dsimp only at hw'); (have c0 := (boxed hw') 0 _ rfl; have c1 := (boxed hw') 1 _ rfl; have c2 := (boxed hw') 2 _ rfl; have c3 := (boxed hw') 3 _ rfl; have c4 := (boxed hw') 4 _ rfl); go_simp; first | done | with_reducible rfl)
      (try simp only [List.getElem_toArray, List.getElem_cons_zero, List.getElem_cons_succ, Act.put, List.setIfInBounds_toArray, List.set_cons_zero, List.set_cons_succ])
      refine wpAnyD_all (rs := [0]) (by kernel_rfl) (by simp) (AllD.cons rfl (by rfl) (fun K hK => ?_) AllD.nil)
      go_simp
      refine Calls.mono (atomsx_c tHash _ (w.heap.size + 2) hlz (by decide)) ?_
      rintro e wx ⟨aA1, an1, ac1, aA2, an2, ac2, aA3, an3, ac3, rfl, hq, hB⟩
      (try have HD := Lib.hid (Rep.sl_below HD.out hB (fun b hb => Nat.lt_trans hb.2 (Array.getElem?_eq_some_iff.1 hdx).1)))
      (try have hdx := box_below hdx hB (Array.getElem?_eq_some_iff.1 hdx).1)
      (try have hrx := box_below hrx hB (Array.getElem?_eq_some_iff.1 hrx).1)
      (try have hkx := box_below hkx hB (Array.getElem?_eq_some_iff.1 hkx).1)
      (try have pa := pa.next hB)
      (try have pb := pb.next hB)
      (try have pc := pc.next hB)
      (try have pd := pd.next hB)
      (try have pe := pe.next hB)
      have HX := Lib.hid (below_then HX.out hB)
      have hlz := Nat.le_trans hlz hB.size
      have pa := hq
      clear hq hB
      simp only [treeV]
      refine hK.out _ _ (fun _ => hdx) ?_
      clear hK K
      (try simp only [List.getElem_toArray, List.getElem_cons_zero, List.getElem_cons_succ, Act.put, List.setIfInBounds_toArray, List.set_cons_zero, List.set_cons_succ])
      refine wpAnyD_all (rs := [1]) (by kernel_rfl) (by simp) (AllD.cons rfl (by rfl) (fun K hK => ?_) AllD.nil)
      go_simp
      refine Calls.mono (atomsx_c tSha _ (w.heap.size + 2) hlz (by decide)) ?_
      rintro e wx ⟨bA1, bn1, bc1, bA2, bn2, bc2, bA3, bn3, bc3, rfl, hq, hB⟩
      (try have HD := Lib.hid (Rep.sl_below HD.out hB (fun b hb => Nat.lt_trans hb.2 (Array.getElem?_eq_some_iff.1 hdx).1)))
      (try have hdx := box_below hdx hB (Array.getElem?_eq_some_iff.1 hdx).1)
      (try have hrx := box_below hrx hB (Array.getElem?_eq_some_iff.1 hrx).1)
      (try have hkx := box_below hkx hB (Array.getElem?_eq_some_iff.1 hkx).1)
      (try have pa := pa.next hB)
      (try have pb := pb.next hB)
      (try have pc := pc.next hB)
      (try have pd := pd.next hB)
      (try have pe := pe.next hB)
      have HX := Lib.hid (below_then HX.out hB)
      have hlz := Nat.le_trans hlz hB.size
      have pb := hq
      clear hq hB
      simp only [treeV]
      refine hK.out _ _ (fun _ => hdx) ?_
      clear hK K
      (try simp only [List.getElem_toArray, List.getElem_cons_zero, List.getElem_cons_succ, Act.put, List.setIfInBounds_toArray, List.set_cons_zero, List.set_cons_succ])
      refine wpAnyD_all (rs := [3]) (by kernel_rfl) (by simp) (AllD.cons rfl (by rfl) (fun K hK => ?_) AllD.nil)
      go_simp
      have pd : Parts wx (fun b => w.heap.size + 2 ≤ b ∧ b < wx.heap.size) (atomT d) none 0 0 AD dl cD none 0 0 := ⟨Rep.sl_nil, Rep.sl_more HD.out (fun b hb => ⟨hb.1, Nat.lt_trans hb.2 (Array.getElem?_eq_some_iff.1 hdx).1⟩), Rep.sl_nil⟩
      have hB := Below.alloc (Below.refl wx.heap.size wx) (Nat.le_refl _) (.cells #[.bool (atomT tHash).list, .bool (atomT tHash).hinted, .slice aA1 an1 ac1, .slice aA2 an2 ac2, .slice aA3 an3 ac3, .bool (atomT tSha).list, .bool (atomT tSha).hinted, .slice bA1 bn1 bc1, .slice bA2 bn2 bc2, .slice bA3 bn3 bc3, .bool (atomT d).list, .bool (atomT d).hinted, .slice none 0 0, .slice AD dl cD, .slice none 0 0] 25)
      have hbn := box_new wx #[.bool (atomT tHash).list, .bool (atomT tHash).hinted, .slice aA1 an1 ac1, .slice aA2 an2 ac2, .slice aA3 an3 ac3, .bool (atomT tSha).list, .bool (atomT tSha).hinted, .slice bA1 bn1 bc1, .slice bA2 bn2 bc2, .slice bA3 bn3 bc3, .bool (atomT d).list, .bool (atomT d).hinted, .slice none 0 0, .slice AD dl cD, .slice none 0 0] 25
      (try have HD := Lib.hid (Rep.sl_below HD.out hB (fun b hb => Nat.lt_trans hb.2 (Array.getElem?_eq_some_iff.1 hdx).1)))
      (try have hdx := box_below hdx hB (Array.getElem?_eq_some_iff.1 hdx).1)
      (try have hrx := box_below hrx hB (Array.getElem?_eq_some_iff.1 hrx).1)
      (try have hkx := box_below hkx hB (Array.getElem?_eq_some_iff.1 hkx).1)
      (try have pa := pa.next hB)
      (try have pb := pb.next hB)
      (try have pc := pc.next hB)
      (try have pd := pd.next hB)
      (try have pe := pe.next hB)
      have HX := Lib.hid (below_then HX.out hB)
      have hlz := Nat.le_trans hlz hB.size
      have HL := Lib.hid (sl_trees3 (S := fun b => w.heap.size + 2 ≤ b ∧ b < _) hbn ⟨by omega, (Array.getElem?_eq_some_iff.1 hbn).1⟩ pa pb pd)
      clear hB hbn
      refine hK.out _ _ (fun _ => hdx) ?_
      clear hK K
      (try simp only [List.getElem_toArray, List.getElem_cons_zero, List.getElem_cons_succ, Act.put, List.setIfInBounds_toArray, List.set_cons_zero, List.set_cons_succ])
      refine wpAnyD_all (rs := [4]) (by kernel_rfl) (by simp) (AllD.cons rfl (by rfl) (fun K hK => ?_) AllD.nil)
      go_simp
      refine Calls.mono (listsx_c _ _ _ _ _ (w.heap.size + 2) hlz HL.out (by decide)) ?_
      rintro e wx ⟨cA1, cn1, cc1, cA2, cn2, cc2, cA3, cn3, cc3, rfl, hq, hB⟩
      (try have HD := Lib.hid (Rep.sl_below HD.out hB (fun b hb => Nat.lt_trans hb.2 (Array.getElem?_eq_some_iff.1 hdx).1)))
      (try have hdx := box_below hdx hB (Array.getElem?_eq_some_iff.1 hdx).1)
      (try have hrx := box_below hrx hB (Array.getElem?_eq_some_iff.1 hrx).1)
      (try have hkx := box_below hkx hB (Array.getElem?_eq_some_iff.1 hkx).1)
      (try have pa := pa.next hB)
      (try have pb := pb.next hB)
      (try have pc := pc.next hB)
      (try have pd := pd.next hB)
      (try have pe := pe.next hB)
      have HX := Lib.hid (below_then HX.out hB)
      have hlz := Nat.le_trans hlz hB.size
      have pc := hq
      clear hq hB HL
      simp only [treeV]
      refine hK.out _ _ (fun _ => hdx) ?_
      clear hK K
      (try simp only [List.getElem_toArray, List.getElem_cons_zero, List.getElem_cons_succ, Act.put, List.setIfInBounds_toArray, List.set_cons_zero, List.set_cons_succ])
      refine wpAnyD_all (rs := [5]) (by kernel_rfl) (by simp) (AllD.cons rfl (by rfl) (fun K hK => ?_) AllD.nil)
      have hr0 := (boxed hrx) 0 _ rfl; have hr1 := (boxed hrx) 1 _ rfl; have hr2 := (boxed hrx) 2 _ rfl; have hr3 := (boxed hrx) 3 _ rfl; have hr4 := (boxed hrx) 4 _ rfl
      have hf0 := boxed_frozen hrx 0; have hf1 := boxed_frozen hrx 1; have hf2 := boxed_frozen hrx 2; have hf3 := boxed_frozen hrx 3; have hf4 := boxed_frozen hrx 4
      go_simp
      refine hK.out _ _ (fun h => absurd h (by decide)) ?_
      clear hK K
      (try simp only [List.getElem_toArray, List.getElem_cons_zero, List.getElem_cons_succ, Act.put, List.setIfInBounds_toArray, List.set_cons_zero, List.set_cons_succ])
      refine wpAnyD_takeY (i := 6) (v := ?_) rfl (by kernel_rfl) (by kernel_rfl) (by kernel_rfl) (fun _ _ _ h => by first | exact h | cases h.1) (by kernel_rfl) (Or.inl ⟨by rfl, ?_⟩) ?_
      rotate_left
      · (intro w' hw'; go_simp; first | done | with_reducible rfl)
      (try simp only [List.getElem_toArray, List.getElem_cons_zero, List.getElem_cons_succ, Act.put, List.setIfInBounds_toArray, List.set_cons_zero, List.set_cons_succ])
      refine wpAnyD_done (by kernel_rfl) ?_ _
      go_wp2
      rw [HO.out.1, HO.out.2]
      exact treeE_ret2 (t := listT [atomT tHash, atomT tSha, atomT d]) (w2 := wx) (g := w.heap.size + 1) (by simp [results, Tryd.results15, go_sem, treeV, atomT, listT, Tree.list, Tree.hinted, put5, hr0, hr1, hr2, hr3, hr4]) rfl pc (fun b hb => by omega) HX.out (by omega) (by omega)
end Go.Proofs.YtdakeodebgggfaaDoor
