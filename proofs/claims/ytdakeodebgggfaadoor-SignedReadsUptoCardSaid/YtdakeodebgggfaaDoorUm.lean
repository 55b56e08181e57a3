/- Layer 18's statements: the example. -/
import Derived.Test.YtdakeodebgggfaaDoorUl
namespace Go.Proofs.YtdakeodebgggfaaDoor
open Go.RowKit
set_option linter.unusedVariables false
set_option linter.unusedSimpArgs false

def zeroL (n : Nat) : List UInt8 := List.replicate n 0
theorem zeroL_len (n : Nat) : (zeroL n).length = n := List.length_replicate
/-- 'make([]byte, n)'. -/
theorem make_u8 {P : Program} {t e : TypeId} (T : ElemT P t e (.int .u8 0) 1 1) (w : World) (n : Nat) (hn : n ≤ 1000000000) :
    ∃ w', (Instr.makeSlice t (.int .i64 (n : Int)) (.int .i64 (n : Int))).run P w = .ok (.slice (some ⟨w.heap.size, 0, none⟩) n n) w' ∧ Rep.u8.sl w' (fun b => w.heap.size ≤ b ∧ b < w'.heap.size) (some ⟨w.heap.size, 0, none⟩) n n (zeroL n) ∧ Below w.heap.size w w' := by
  rw [zeroL]
  obtain ⟨i, hi, hz, hs, hb⟩ := info_parts T.info
  obtain ⟨w', hrun, ho, hg⟩ := run_make_full (P := P) w w.heap.size t e i (.int .u8 0) 1 T.und hi hz hs .i64 .i64 n (by rw [hb]; omega) (by simp [maxLen]; omega) (Nat.le_refl _)
  have hown : Rep.u8.own e w' w.heap.size (fun _ => False) (.slice (some ⟨w.heap.size, 0, none⟩) n n) (List.replicate n (0 : UInt8)) := by
    refine ⟨_, by rw [List.length_replicate]; exact ho, fun j x hj => ?_⟩
    rw [show Rep.u8.size = 1 from rfl, Nat.mul_one, Nat.mul_one, show (Value.int IntKind.u8 0).cells = #[.int .u8 0] from rfl, toList_madeCells_one]
    have hjn : j < n := by
      have := (List.getElem?_eq_some_iff.1 hj).1
      simpa using this
    simp [hjn] at hj
    subst hj
    rw [List.take_one, List.head?_drop]
    simp only [List.getElem?_replicate, hjn, if_true, Option.toList_some]
    exact rd_u8 rfl
  obtain ⟨A, c, he, hsl⟩ := Rep.own_sl hown
  have hlt := Rep.own_lt hown
  simp only [Value.slice.injEq, List.length_replicate] at he
  obtain ⟨rfl, _, rfl⟩ := he
  rw [List.length_replicate] at hsl
  refine ⟨w', hrun, Rep.sl_more hsl fun b hb => ?_, (Below.refl w.heap.size w).grown hg (Nat.le_refl _) fun k hk => by cases hk⟩
  rcases hb with hb | hb
  · exact hb.elim
  · exact hlt b hb

theorem awake18_may : sMay (atomT [120]) (zeroL 32) (zeroL 64) = true := by
  have hm : (signedT (atomT [120]) (zeroL 32) (zeroL 64)).may = true := by
    simp only [Tree.may, signedT, keyV, Bool.false_eq_true, if_false, Tree.clean_eq, Tree.nodes_eq, Tree.deep_eq, Tree.form_eq, Tree.fair, Tree.atomF, listT, atomT, Tree.list, Tree.hinted, Tree.hint, Tree.data, Tree.kids, textB, zeroL, List.length_replicate]
    decide +kernel
  rw [sMay, hm, zeroL_len, zeroL_len]
  rfl
set_option maxHeartbeats 4000000 in
set_option maxRecDepth 100000 in
theorem awake18_c (w : World) (hT : Tabs w.heap.size w) : Calls Tryd.prog 10 #[] w (Tells w (.bool true)) := by
  have HTT := Lib.hid hT
  have HO : Hid (sOut (atomT [120]) (zeroL 32) (zeroL 64) = signedT (atomT [120]) (zeroL 32) (zeroL 64) ∧ sErr (atomT [120]) (zeroL 32) (zeroL 64) = 0) := ⟨by rw [sOut, awake18_may]; rfl, by rw [sErr, awake18_may]; rfl⟩
  have HH : Hid (headB (signedT (atomT [120]) (zeroL 32) (zeroL 64)) tSigned = true) := (headB_iff (may_clean (sMay_parts awake18_may).2.2)).2 ⟨_, rfl⟩
  clear hT
  go_enter Tryd.func10, Tryd.ntmps10
  go_upto_region 1 with fail
  go_cut [1, 2] (fun s1 s2 wx => ∃ gi A1 n1 c1 A2 n2 c2 A3 n3 c3, s1 = .pointer (some ⟨gi, 0, none⟩) ∧ s2 = .int .i64 0 ∧ Hid (Parts wx (fun b => b < wx.heap.size) (signedT (atomT [120]) (zeroL 32) (zeroL 64)) A1 n1 c1 A2 n2 c2 A3 n3 c3) ∧
    wx.heap[gi]? = some (.cells #[.bool (signedT (atomT [120]) (zeroL 32) (zeroL 64)).list, .bool (signedT (atomT [120]) (zeroL 32) (zeroL 64)).hinted, .slice A1 n1 c1, .slice A2 n2 c2, .slice A3 n3 c3] 25 (0, 0)) ∧ Hid (Below w.heap.size w wx))
  case first =>
    have HX := Lib.hid (Below.refl w.heap.size w).drew
    refine wp_region_D (fun w' => True) [] (by kernel_rfl) ?_
    obtain ⟨wx, hwx⟩ : ∃ wx, wx = w.drew := ⟨_, rfl⟩
    rw [← hwx] at HX ⊢
    have hz : w.heap.size ≤ wx.heap.size := HX.out.size
    clear hwx
    have HS := Lib.hid trivial
    refine wpAnyD_all (rs := [0, 1, 2, 8]) (by kernel_rfl) (by simp) (AllD.cons rfl (by rfl) (fun K hK => ?_) (AllD.cons rfl (by rfl) (fun K hK => ?_) (AllD.cons rfl (by rfl) (fun K hK => ?_) (AllD.cons rfl (by rfl) (fun K hK => ?_) AllD.nil))))
    · go_simp
      refine Calls.mono (atomref_c [120] _ _ (Nat.le_refl _) (by decide)) ?_
      rintro e wx ⟨aA1, an1, ac1, aA2, an2, ac2, aA3, an3, ac3, rfl, hq, hB⟩
      have HX := Lib.hid (below_then HX.out hB)
      have hz := hB.size
      have pa := hq
      clear hq hB
      (try simp only [treeV])
      refine hK.out _ _ (fun _ => trivial) ?_
      clear hK K
      (try simp only [List.getElem_toArray, List.getElem_cons_zero, List.getElem_cons_succ, Act.put, List.setIfInBounds_toArray, List.set_cons_zero, List.set_cons_succ])
      refine wpAnyD_all (rs := [1, 2, 8]) (by kernel_rfl) (by simp) (AllD.cons rfl (by rfl) (fun K hK => ?_) (AllD.cons rfl (by rfl) (fun K hK => ?_) (AllD.cons rfl (by rfl) (fun K hK => ?_) AllD.nil)))
      · obtain ⟨w1, hrun0, hsl0, hB⟩ := make_u8 TB wx 32 (by decide)
        have hrun : Sem.run _ (Instr.makeSlice 22 (Value.int IntKind.i64 32) (Value.int IntKind.i64 32)) wx = _ := hrun0
        go_simp
        (try have pa := pa.keepS hB (by intro b hb; first | omega | (simp only [false_or] at hb; omega)))
        have HX := Lib.hid (below_then HX.out hB)
        have hz := hB.size
        have HE := Lib.hid hsl0
        clear hB hrun hrun0 hsl0
        generalize hgg1 : wx.heap.size = g1 at *
        generalize w1 = wx at *
        refine hK.out _ _ (fun _ => trivial) ?_
        clear hK K
        (try simp only [List.getElem_toArray, List.getElem_cons_zero, List.getElem_cons_succ, Act.put, List.setIfInBounds_toArray, List.set_cons_zero, List.set_cons_succ])
        refine wpAnyD_all (rs := [2, 8]) (by kernel_rfl) (by simp) (AllD.cons rfl (by rfl) (fun K hK => ?_) (AllD.cons rfl (by rfl) (fun K hK => ?_) AllD.nil))
        · obtain ⟨w1, hrun0, hsl0, hB⟩ := make_u8 TB wx 64 (by decide)
          have hrun : Sem.run _ (Instr.makeSlice 22 (Value.int IntKind.i64 64) (Value.int IntKind.i64 64)) wx = _ := hrun0
          go_simp
          (try have pa := pa.keepS hB (by intro b hb; first | omega | (simp only [false_or] at hb; omega)))
          (try have HE := Lib.hid (slKeepS HE.out hB (by intro b hb; first | omega | (simp only [false_or] at hb; omega))))
          have HX := Lib.hid (below_then HX.out hB)
          have hz := hB.size
          have HL := Lib.hid hsl0
          clear hB hrun hrun0 hsl0
          generalize hgg2 : wx.heap.size = g2 at *
          generalize w1 = wx at *
          refine hK.out _ _ (fun _ => trivial) ?_
          clear hK K
          (try simp only [List.getElem_toArray, List.getElem_cons_zero, List.getElem_cons_succ, Act.put, List.setIfInBounds_toArray, List.set_cons_zero, List.set_cons_succ])
          refine wpAnyD_take (i := 3) (v := ?_) rfl (by kernel_rfl) (by kernel_rfl) (by kernel_rfl) (by kernel_rfl) (fun _ _ _ h => by first | exact h | cases h.1) (by rfl) (by kernel_rfl) (Or.inl ⟨by rfl, ?_⟩) (by first | exact HS.out | exact hS | exact hdx | exact ⟨hdx, hkx⟩) ?_
          rotate_left
          · (intro w' hw'; (try dsimp only at hw'); skip; go_simp; first | done | with_reducible rfl)
          (try simp only [List.getElem_toArray, List.getElem_cons_zero, List.getElem_cons_succ, Act.put, List.setIfInBounds_toArray, List.set_cons_zero, List.set_cons_succ])
          refine wpAnyD_all (rs := [4, 8]) (by kernel_rfl) (by simp) (AllD.cons rfl (by rfl) (fun K hK => ?_) (AllD.cons rfl (by rfl) (fun K hK => ?_) AllD.nil))
          · go_simp
            refine Calls.mono (sput_c (atomT [120]) (zeroL 32) (zeroL 64) _ _ (Nat.le_refl _) _ _ _ _ _ _ _ _ _ _ _ _ _ _ _ (pa.more (by intro b hb; omega)) (Rep.sl_more HE.out (by intro b hb; omega)) (Rep.sl_more HL.out (by intro b hb; omega)) (HTT.out.next HX.out) (by rw [atomT_wt]; decide) (by decide) (by decide)) ?_
            rintro e wx ⟨eA1, en1, ec1, eA2, en2, ec2, eA3, en3, ec3, rfl, hq, hB⟩
            (try have pa := pa.keepS hB (by intro b hb; first | omega | (simp only [false_or] at hb; omega)))
            (try have HE := Lib.hid (slKeepS HE.out hB (by intro b hb; first | omega | (simp only [false_or] at hb; omega))))
            (try have HL := Lib.hid (slKeepS HL.out hB (by intro b hb; first | omega | (simp only [false_or] at hb; omega))))
            have HX := Lib.hid (below_then HX.out hB)
            have hz := hB.size
            have pe := hq
            clear hq hB
            (try simp only [treeV])
            (rw [HO.out.1, HO.out.2] at *)
            refine hK.out _ _ (fun _ => trivial) ?_
            clear hK K
            (try simp only [List.getElem_toArray, List.getElem_cons_zero, List.getElem_cons_succ, Act.put, List.setIfInBounds_toArray, List.set_cons_zero, List.set_cons_succ])
            refine wpAnyD_take (i := 5) (v := ?_) rfl (by kernel_rfl) (by kernel_rfl) (by kernel_rfl) (by kernel_rfl) (fun _ _ _ h => by first | exact h | cases h.1) (by rfl) (by kernel_rfl) (Or.inl ⟨by rfl, ?_⟩) (by first | exact HS.out | exact hS | exact hdx | exact ⟨hdx, hkx⟩) ?_
            rotate_left
            · (intro w' hw'; (try dsimp only at hw'); skip; go_simp; first | done | with_reducible rfl)
            (try simp only [List.getElem_toArray, List.getElem_cons_zero, List.getElem_cons_succ, Act.put, List.setIfInBounds_toArray, List.set_cons_zero, List.set_cons_succ])
            refine wpAnyD_take (i := 6) (v := ?_) rfl (by kernel_rfl) (by kernel_rfl) (by kernel_rfl) (by kernel_rfl) (fun _ _ _ h => by first | exact h | cases h.1) (by rfl) (by kernel_rfl) (Or.inl ⟨by rfl, ?_⟩) (by first | exact HS.out | exact hS | exact hdx | exact ⟨hdx, hkx⟩) ?_
            rotate_left
            · (intro w' hw'; (try dsimp only at hw'); skip; go_simp; first | done | with_reducible rfl)
            (try simp only [List.getElem_toArray, List.getElem_cons_zero, List.getElem_cons_succ, Act.put, List.setIfInBounds_toArray, List.set_cons_zero, List.set_cons_succ])
            refine wpAnyD_take (i := 7) (v := ?_) rfl (by kernel_rfl) (by kernel_rfl) (by kernel_rfl) (by kernel_rfl) (fun _ _ _ h => by first | exact h | cases h.1) (by rfl) (by kernel_rfl) (Or.inl ⟨by rfl, ?_⟩) (by first | exact HS.out | exact hS | exact hdx | exact ⟨hdx, hkx⟩) ?_
            rotate_left
            · (intro w' hw'; (try dsimp only at hw'); skip; go_simp; first | done | with_reducible rfl)
            (try simp only [List.getElem_toArray, List.getElem_cons_zero, List.getElem_cons_succ, Act.put, List.setIfInBounds_toArray, List.set_cons_zero, List.set_cons_succ])
            refine wpAnyD_all (rs := [8]) (by kernel_rfl) (by simp) (AllD.cons rfl (by rfl) (fun K hK => ?_) AllD.nil)
            go_simp
            have hB := Below.alloc (Below.refl wx.heap.size wx) (Nat.le_refl _) (.cells #[.bool false, .bool false, .slice none 0 0, .slice none 0 0, .slice none 0 0] 25)
            have hin := box_new wx #[.bool false, .bool false, .slice none 0 0, .slice none 0 0, .slice none 0 0] 25
            (try have pe := pe.keepS hB (by intro b hb; first | omega | (simp only [false_or] at hb; omega)))
            have HX := Lib.hid (below_then HX.out hB)
            have hz := hB.size
            have hix := hin
            have hgl := (Array.getElem?_eq_some_iff.1 hix).1
            clear hB hin
            generalize hggi : wx.heap.size = gi at *
            generalize wx.alloc (.cells #[.bool false, .bool false, .slice none 0 0, .slice none 0 0, .slice none 0 0] 25) = wx at *
            refine hK.out _ _ (fun _ => trivial) ?_
            clear hK K
            (try simp only [List.getElem_toArray, List.getElem_cons_zero, List.getElem_cons_succ, Act.put, List.setIfInBounds_toArray, List.set_cons_zero, List.set_cons_succ])
            refine wpAnyD_all (rs := [9]) (by kernel_rfl) (by simp) (AllD.cons rfl (by rfl) (fun K hK => ?_) AllD.nil)
            have hr0 := (boxed hix) 0 _ rfl; have hr1 := (boxed hix) 1 _ rfl; have hr2 := (boxed hix) 2 _ rfl; have hr3 := (boxed hix) 3 _ rfl; have hr4 := (boxed hix) 4 _ rfl
            have hf0 := boxed_frozen hix 0; have hf1 := boxed_frozen hix 1; have hf2 := boxed_frozen hix 2; have hf3 := boxed_frozen hix 3; have hf4 := boxed_frozen hix 4
            go_simp
            have hgr := put5_grown wx gi 0 (.bool (signedT (atomT [120]) (zeroL 32) (zeroL 64)).list) (.bool (signedT (atomT [120]) (zeroL 32) (zeroL 64)).hinted) (.slice eA1 en1 ec1) (.slice eA2 en2 ec2) (.slice eA3 en3 ec3)
            have hnw := put5_box hix 0 (.bool (signedT (atomT [120]) (zeroL 32) (zeroL 64)).list) (.bool (signedT (atomT [120]) (zeroL 32) (zeroL 64)).hinted) (.slice eA1 en1 ec1) (.slice eA2 en2 ec2) (.slice eA3 en3 ec3)
            clear hr0 hr1 hr2 hr3 hr4 hf0 hf1 hf2 hf3 hf4 hix
            (try have pe := pe.farS hgr (by intro b hb; first | omega | (simp only [false_or] at hb; omega)))
            (try have hix := box_grown hix hgr (by simp <;> omega))
            have HX := Lib.hid (HX.out.grown hgr (by omega) fun k hk => by injection hk; omega)
            have hz := hgr.size
            have hix := hnw
            clear hgr hnw
            refine hK.out _ _ (fun _ => trivial) ?_
            clear hK K
            (try simp only [List.getElem_toArray, List.getElem_cons_zero, List.getElem_cons_succ, Act.put, List.setIfInBounds_toArray, List.set_cons_zero, List.set_cons_succ])
            generalize hpq : put5 wx gi 0 (.bool (signedT (atomT [120]) (zeroL 32) (zeroL 64)).list) (.bool (signedT (atomT [120]) (zeroL 32) (zeroL 64)).hinted) (.slice eA1 en1 ec1) (.slice eA2 en2 ec2) (.slice eA3 en3 ec3) = w8 at *
            unfold put5 at hpq
            rw [hpq]
            clear hpq
            refine wpAnyD_take (i := 10) (v := ?_) rfl (by kernel_rfl) (by kernel_rfl) (by kernel_rfl) (by kernel_rfl) (fun _ _ _ h => by first | exact h | cases h.1) (by rfl) (by kernel_rfl) (Or.inl ⟨by rfl, ?_⟩) (by first | exact HS.out | exact hS | exact hdx | exact ⟨hdx, hkx⟩) ?_
            rotate_left
            · (intro w' hw'; (try dsimp only at hw'); skip; go_simp; first | done | with_reducible rfl)
            (try simp only [List.getElem_toArray, List.getElem_cons_zero, List.getElem_cons_succ, Act.put, List.setIfInBounds_toArray, List.set_cons_zero, List.set_cons_succ])
            refine wpAnyD_done (by kernel_rfl) ?_ _
            go_wp2_with fail
            go_meet
            exact ⟨gi, _, _, _, _, _, _, _, _, _, rfl, rfl, pe.more (by intro b hb; omega), hix, HX.out⟩
          · go_simp
            have hB := Below.alloc (Below.refl wx.heap.size wx) (Nat.le_refl _) (.cells #[.bool false, .bool false, .slice none 0 0, .slice none 0 0, .slice none 0 0] 25)
            have hin := box_new wx #[.bool false, .bool false, .slice none 0 0, .slice none 0 0, .slice none 0 0] 25
            (try have pa := pa.keepS hB (by intro b hb; first | omega | (simp only [false_or] at hb; omega)))
            (try have HE := Lib.hid (slKeepS HE.out hB (by intro b hb; first | omega | (simp only [false_or] at hb; omega))))
            (try have HL := Lib.hid (slKeepS HL.out hB (by intro b hb; first | omega | (simp only [false_or] at hb; omega))))
            have HX := Lib.hid (below_then HX.out hB)
            have hz := hB.size
            have hix := hin
            have hgl := (Array.getElem?_eq_some_iff.1 hix).1
            clear hB hin
            generalize hggi : wx.heap.size = gi at *
            generalize wx.alloc (.cells #[.bool false, .bool false, .slice none 0 0, .slice none 0 0, .slice none 0 0] 25) = wx at *
            refine hK.out _ _ (fun _ => trivial) ?_
            clear hK K
            (try simp only [List.getElem_toArray, List.getElem_cons_zero, List.getElem_cons_succ, Act.put, List.setIfInBounds_toArray, List.set_cons_zero, List.set_cons_succ])
            refine wpAnyD_all (rs := [4]) (by kernel_rfl) (by simp) (AllD.cons rfl (by rfl) (fun K hK => ?_) AllD.nil)
            go_simp
            refine Calls.mono (sput_c (atomT [120]) (zeroL 32) (zeroL 64) _ _ (Nat.le_refl _) _ _ _ _ _ _ _ _ _ _ _ _ _ _ _ (pa.more (by intro b hb; omega)) (Rep.sl_more HE.out (by intro b hb; omega)) (Rep.sl_more HL.out (by intro b hb; omega)) (HTT.out.next HX.out) (by rw [atomT_wt]; decide) (by decide) (by decide)) ?_
            rintro e wx ⟨eA1, en1, ec1, eA2, en2, ec2, eA3, en3, ec3, rfl, hq, hB⟩
            (try have pa := pa.keepS hB (by intro b hb; first | omega | (simp only [false_or] at hb; omega)))
            (try have HE := Lib.hid (slKeepS HE.out hB (by intro b hb; first | omega | (simp only [false_or] at hb; omega))))
            (try have HL := Lib.hid (slKeepS HL.out hB (by intro b hb; first | omega | (simp only [false_or] at hb; omega))))
            (try have hix := box_below hix hB (Array.getElem?_eq_some_iff.1 hix).1)
            have HX := Lib.hid (below_then HX.out hB)
            have hz := hB.size
            have pe := hq
            clear hq hB
            (try simp only [treeV])
            (rw [HO.out.1, HO.out.2] at *)
            refine hK.out _ _ (fun _ => trivial) ?_
            clear hK K
            (try simp only [List.getElem_toArray, List.getElem_cons_zero, List.getElem_cons_succ, Act.put, List.setIfInBounds_toArray, List.set_cons_zero, List.set_cons_succ])
            refine wpAnyD_take (i := 5) (v := ?_) rfl (by kernel_rfl) (by kernel_rfl) (by kernel_rfl) (by kernel_rfl) (fun _ _ _ h => by first | exact h | cases h.1) (by rfl) (by kernel_rfl) (Or.inl ⟨by rfl, ?_⟩) (by first | exact HS.out | exact hS | exact hdx | exact ⟨hdx, hkx⟩) ?_
            rotate_left
            · (intro w' hw'; (try dsimp only at hw'); skip; go_simp; first | done | with_reducible rfl)
            (try simp only [List.getElem_toArray, List.getElem_cons_zero, List.getElem_cons_succ, Act.put, List.setIfInBounds_toArray, List.set_cons_zero, List.set_cons_succ])
            refine wpAnyD_take (i := 6) (v := ?_) rfl (by kernel_rfl) (by kernel_rfl) (by kernel_rfl) (by kernel_rfl) (fun _ _ _ h => by first | exact h | cases h.1) (by rfl) (by kernel_rfl) (Or.inl ⟨by rfl, ?_⟩) (by first | exact HS.out | exact hS | exact hdx | exact ⟨hdx, hkx⟩) ?_
            rotate_left
            · (intro w' hw'; (try dsimp only at hw'); skip; go_simp; first | done | with_reducible rfl)
            (try simp only [List.getElem_toArray, List.getElem_cons_zero, List.getElem_cons_succ, Act.put, List.setIfInBounds_toArray, List.set_cons_zero, List.set_cons_succ])
            refine wpAnyD_take (i := 7) (v := ?_) rfl (by kernel_rfl) (by kernel_rfl) (by kernel_rfl) (by kernel_rfl) (fun _ _ _ h => by first | exact h | cases h.1) (by rfl) (by kernel_rfl) (Or.inl ⟨by rfl, ?_⟩) (by first | exact HS.out | exact hS | exact hdx | exact ⟨hdx, hkx⟩) ?_
            rotate_left
            · (intro w' hw'; (try dsimp only at hw'); skip; go_simp; first | done | with_reducible rfl)
            (try simp only [List.getElem_toArray, List.getElem_cons_zero, List.getElem_cons_succ, Act.put, List.setIfInBounds_toArray, List.set_cons_zero, List.set_cons_succ])
            refine wpAnyD_all (rs := [9]) (by kernel_rfl) (by simp) (AllD.cons rfl (by rfl) (fun K hK => ?_) AllD.nil)
            have hr0 := (boxed hix) 0 _ rfl; have hr1 := (boxed hix) 1 _ rfl; have hr2 := (boxed hix) 2 _ rfl; have hr3 := (boxed hix) 3 _ rfl; have hr4 := (boxed hix) 4 _ rfl
            have hf0 := boxed_frozen hix 0; have hf1 := boxed_frozen hix 1; have hf2 := boxed_frozen hix 2; have hf3 := boxed_frozen hix 3; have hf4 := boxed_frozen hix 4
            go_simp
            have hgr := put5_grown wx gi 0 (.bool (signedT (atomT [120]) (zeroL 32) (zeroL 64)).list) (.bool (signedT (atomT [120]) (zeroL 32) (zeroL 64)).hinted) (.slice eA1 en1 ec1) (.slice eA2 en2 ec2) (.slice eA3 en3 ec3)
            have hnw := put5_box hix 0 (.bool (signedT (atomT [120]) (zeroL 32) (zeroL 64)).list) (.bool (signedT (atomT [120]) (zeroL 32) (zeroL 64)).hinted) (.slice eA1 en1 ec1) (.slice eA2 en2 ec2) (.slice eA3 en3 ec3)
            clear hr0 hr1 hr2 hr3 hr4 hf0 hf1 hf2 hf3 hf4 hix
            (try have pe := pe.farS hgr (by intro b hb; first | omega | (simp only [false_or] at hb; omega)))
            (try have hix := box_grown hix hgr (by simp <;> omega))
            have HX := Lib.hid (HX.out.grown hgr (by omega) fun k hk => by injection hk; omega)
            have hz := hgr.size
            have hix := hnw
            clear hgr hnw
            refine hK.out _ _ (fun _ => trivial) ?_
            clear hK K
            (try simp only [List.getElem_toArray, List.getElem_cons_zero, List.getElem_cons_succ, Act.put, List.setIfInBounds_toArray, List.set_cons_zero, List.set_cons_succ])
            generalize hpq : put5 wx gi 0 (.bool (signedT (atomT [120]) (zeroL 32) (zeroL 64)).list) (.bool (signedT (atomT [120]) (zeroL 32) (zeroL 64)).hinted) (.slice eA1 en1 ec1) (.slice eA2 en2 ec2) (.slice eA3 en3 ec3) = w8 at *
            unfold put5 at hpq
            rw [hpq]
            clear hpq
            refine wpAnyD_take (i := 10) (v := ?_) rfl (by kernel_rfl) (by kernel_rfl) (by kernel_rfl) (by kernel_rfl) (fun _ _ _ h => by first | exact h | cases h.1) (by rfl) (by kernel_rfl) (Or.inl ⟨by rfl, ?_⟩) (by first | exact HS.out | exact hS | exact hdx | exact ⟨hdx, hkx⟩) ?_
            rotate_left
            · (intro w' hw'; (try dsimp only at hw'); skip; go_simp; first | done | with_reducible rfl)
            (try simp only [List.getElem_toArray, List.getElem_cons_zero, List.getElem_cons_succ, Act.put, List.setIfInBounds_toArray, List.set_cons_zero, List.set_cons_succ])
            refine wpAnyD_done (by kernel_rfl) ?_ _
            go_wp2_with fail
            go_meet
            exact ⟨gi, _, _, _, _, _, _, _, _, _, rfl, rfl, pe.more (by intro b hb; omega), hix, HX.out⟩
        · go_simp
          have hB := Below.alloc (Below.refl wx.heap.size wx) (Nat.le_refl _) (.cells #[.bool false, .bool false, .slice none 0 0, .slice none 0 0, .slice none 0 0] 25)
          have hin := box_new wx #[.bool false, .bool false, .slice none 0 0, .slice none 0 0, .slice none 0 0] 25
          (try have pa := pa.keepS hB (by intro b hb; first | omega | (simp only [false_or] at hb; omega)))
          (try have HE := Lib.hid (slKeepS HE.out hB (by intro b hb; first | omega | (simp only [false_or] at hb; omega))))
          have HX := Lib.hid (below_then HX.out hB)
          have hz := hB.size
          have hix := hin
          have hgl := (Array.getElem?_eq_some_iff.1 hix).1
          clear hB hin
          generalize hggi : wx.heap.size = gi at *
          generalize wx.alloc (.cells #[.bool false, .bool false, .slice none 0 0, .slice none 0 0, .slice none 0 0] 25) = wx at *
          refine hK.out _ _ (fun _ => trivial) ?_
          clear hK K
          (try simp only [List.getElem_toArray, List.getElem_cons_zero, List.getElem_cons_succ, Act.put, List.setIfInBounds_toArray, List.set_cons_zero, List.set_cons_succ])
          refine wpAnyD_all (rs := [2]) (by kernel_rfl) (by simp) (AllD.cons rfl (by rfl) (fun K hK => ?_) AllD.nil)
          obtain ⟨w1, hrun0, hsl0, hB⟩ := make_u8 TB wx 64 (by decide)
          have hrun : Sem.run _ (Instr.makeSlice 22 (Value.int IntKind.i64 64) (Value.int IntKind.i64 64)) wx = _ := hrun0
          go_simp
          (try have pa := pa.keepS hB (by intro b hb; first | omega | (simp only [false_or] at hb; omega)))
          (try have HE := Lib.hid (slKeepS HE.out hB (by intro b hb; first | omega | (simp only [false_or] at hb; omega))))
          (try have hix := box_below hix hB (Array.getElem?_eq_some_iff.1 hix).1)
          have HX := Lib.hid (below_then HX.out hB)
          have hz := hB.size
          have HL := Lib.hid hsl0
          clear hB hrun hrun0 hsl0
          generalize hgg2 : wx.heap.size = g2 at *
          generalize w1 = wx at *
          refine hK.out _ _ (fun _ => trivial) ?_
          clear hK K
          (try simp only [List.getElem_toArray, List.getElem_cons_zero, List.getElem_cons_succ, Act.put, List.setIfInBounds_toArray, List.set_cons_zero, List.set_cons_succ])
          refine wpAnyD_take (i := 3) (v := ?_) rfl (by kernel_rfl) (by kernel_rfl) (by kernel_rfl) (by kernel_rfl) (fun _ _ _ h => by first | exact h | cases h.1) (by rfl) (by kernel_rfl) (Or.inl ⟨by rfl, ?_⟩) (by first | exact HS.out | exact hS | exact hdx | exact ⟨hdx, hkx⟩) ?_
          rotate_left
          · (intro w' hw'; (try dsimp only at hw'); skip; go_simp; first | done | with_reducible rfl)
          (try simp only [List.getElem_toArray, List.getElem_cons_zero, List.getElem_cons_succ, Act.put, List.setIfInBounds_toArray, List.set_cons_zero, List.set_cons_succ])
          refine wpAnyD_all (rs := [4]) (by kernel_rfl) (by simp) (AllD.cons rfl (by rfl) (fun K hK => ?_) AllD.nil)
          go_simp
          refine Calls.mono (sput_c (atomT [120]) (zeroL 32) (zeroL 64) _ _ (Nat.le_refl _) _ _ _ _ _ _ _ _ _ _ _ _ _ _ _ (pa.more (by intro b hb; omega)) (Rep.sl_more HE.out (by intro b hb; omega)) (Rep.sl_more HL.out (by intro b hb; omega)) (HTT.out.next HX.out) (by rw [atomT_wt]; decide) (by decide) (by decide)) ?_
          rintro e wx ⟨eA1, en1, ec1, eA2, en2, ec2, eA3, en3, ec3, rfl, hq, hB⟩
          (try have pa := pa.keepS hB (by intro b hb; first | omega | (simp only [false_or] at hb; omega)))
          (try have HE := Lib.hid (slKeepS HE.out hB (by intro b hb; first | omega | (simp only [false_or] at hb; omega))))
          (try have HL := Lib.hid (slKeepS HL.out hB (by intro b hb; first | omega | (simp only [false_or] at hb; omega))))
          (try have hix := box_below hix hB (Array.getElem?_eq_some_iff.1 hix).1)
          have HX := Lib.hid (below_then HX.out hB)
          have hz := hB.size
          have pe := hq
          clear hq hB
          (try simp only [treeV])
          (rw [HO.out.1, HO.out.2] at *)
          refine hK.out _ _ (fun _ => trivial) ?_
          clear hK K
          (try simp only [List.getElem_toArray, List.getElem_cons_zero, List.getElem_cons_succ, Act.put, List.setIfInBounds_toArray, List.set_cons_zero, List.set_cons_succ])
          refine wpAnyD_take (i := 5) (v := ?_) rfl (by kernel_rfl) (by kernel_rfl) (by kernel_rfl) (by kernel_rfl) (fun _ _ _ h => by first | exact h | cases h.1) (by rfl) (by kernel_rfl) (Or.inl ⟨by rfl, ?_⟩) (by first | exact HS.out | exact hS | exact hdx | exact ⟨hdx, hkx⟩) ?_
          rotate_left
          · (intro w' hw'; (try dsimp only at hw'); skip; go_simp; first | done | with_reducible rfl)
          (try simp only [List.getElem_toArray, List.getElem_cons_zero, List.getElem_cons_succ, Act.put, List.setIfInBounds_toArray, List.set_cons_zero, List.set_cons_succ])
          refine wpAnyD_take (i := 6) (v := ?_) rfl (by kernel_rfl) (by kernel_rfl) (by kernel_rfl) (by kernel_rfl) (fun _ _ _ h => by first | exact h | cases h.1) (by rfl) (by kernel_rfl) (Or.inl ⟨by rfl, ?_⟩) (by first | exact HS.out | exact hS | exact hdx | exact ⟨hdx, hkx⟩) ?_
          rotate_left
          · (intro w' hw'; (try dsimp only at hw'); skip; go_simp; first | done | with_reducible rfl)
          (try simp only [List.getElem_toArray, List.getElem_cons_zero, List.getElem_cons_succ, Act.put, List.setIfInBounds_toArray, List.set_cons_zero, List.set_cons_succ])
          refine wpAnyD_take (i := 7) (v := ?_) rfl (by kernel_rfl) (by kernel_rfl) (by kernel_rfl) (by kernel_rfl) (fun _ _ _ h => by first | exact h | cases h.1) (by rfl) (by kernel_rfl) (Or.inl ⟨by rfl, ?_⟩) (by first | exact HS.out | exact hS | exact hdx | exact ⟨hdx, hkx⟩) ?_
          rotate_left
          · (intro w' hw'; (try dsimp only at hw'); skip; go_simp; first | done | with_reducible rfl)
          (try simp only [List.getElem_toArray, List.getElem_cons_zero, List.getElem_cons_succ, Act.put, List.setIfInBounds_toArray, List.set_cons_zero, List.set_cons_succ])
          refine wpAnyD_all (rs := [9]) (by kernel_rfl) (by simp) (AllD.cons rfl (by rfl) (fun K hK => ?_) AllD.nil)
          have hr0 := (boxed hix) 0 _ rfl; have hr1 := (boxed hix) 1 _ rfl; have hr2 := (boxed hix) 2 _ rfl; have hr3 := (boxed hix) 3 _ rfl; have hr4 := (boxed hix) 4 _ rfl
          have hf0 := boxed_frozen hix 0; have hf1 := boxed_frozen hix 1; have hf2 := boxed_frozen hix 2; have hf3 := boxed_frozen hix 3; have hf4 := boxed_frozen hix 4
          go_simp
          have hgr := put5_grown wx gi 0 (.bool (signedT (atomT [120]) (zeroL 32) (zeroL 64)).list) (.bool (signedT (atomT [120]) (zeroL 32) (zeroL 64)).hinted) (.slice eA1 en1 ec1) (.slice eA2 en2 ec2) (.slice eA3 en3 ec3)
          have hnw := put5_box hix 0 (.bool (signedT (atomT [120]) (zeroL 32) (zeroL 64)).list) (.bool (signedT (atomT [120]) (zeroL 32) (zeroL 64)).hinted) (.slice eA1 en1 ec1) (.slice eA2 en2 ec2) (.slice eA3 en3 ec3)
          clear hr0 hr1 hr2 hr3 hr4 hf0 hf1 hf2 hf3 hf4 hix
          (try have pe := pe.farS hgr (by intro b hb; first | omega | (simp only [false_or] at hb; omega)))
          (try have hix := box_grown hix hgr (by simp <;> omega))
          have HX := Lib.hid (HX.out.grown hgr (by omega) fun k hk => by injection hk; omega)
          have hz := hgr.size
          have hix := hnw
          clear hgr hnw
          refine hK.out _ _ (fun _ => trivial) ?_
          clear hK K
          (try simp only [List.getElem_toArray, List.getElem_cons_zero, List.getElem_cons_succ, Act.put, List.setIfInBounds_toArray, List.set_cons_zero, List.set_cons_succ])
          generalize hpq : put5 wx gi 0 (.bool (signedT (atomT [120]) (zeroL 32) (zeroL 64)).list) (.bool (signedT (atomT [120]) (zeroL 32) (zeroL 64)).hinted) (.slice eA1 en1 ec1) (.slice eA2 en2 ec2) (.slice eA3 en3 ec3) = w8 at *
          unfold put5 at hpq
          rw [hpq]
          clear hpq
          refine wpAnyD_take (i := 10) (v := ?_) rfl (by kernel_rfl) (by kernel_rfl) (by kernel_rfl) (by kernel_rfl) (fun _ _ _ h => by first | exact h | cases h.1) (by rfl) (by kernel_rfl) (Or.inl ⟨by rfl, ?_⟩) (by first | exact HS.out | exact hS | exact hdx | exact ⟨hdx, hkx⟩) ?_
          rotate_left
          · (intro w' hw'; (try dsimp only at hw'); skip; go_simp; first | done | with_reducible rfl)
          (try simp only [List.getElem_toArray, List.getElem_cons_zero, List.getElem_cons_succ, Act.put, List.setIfInBounds_toArray, List.set_cons_zero, List.set_cons_succ])
          refine wpAnyD_done (by kernel_rfl) ?_ _
          go_wp2_with fail
          go_meet
          exact ⟨gi, _, _, _, _, _, _, _, _, _, rfl, rfl, pe.more (by intro b hb; omega), hix, HX.out⟩
      · obtain ⟨w1, hrun0, hsl0, hB⟩ := make_u8 TB wx 64 (by decide)
        have hrun : Sem.run _ (Instr.makeSlice 22 (Value.int IntKind.i64 64) (Value.int IntKind.i64 64)) wx = _ := hrun0
        go_simp
        (try have pa := pa.keepS hB (by intro b hb; first | omega | (simp only [false_or] at hb; omega)))
        have HX := Lib.hid (below_then HX.out hB)
        have hz := hB.size
        have HL := Lib.hid hsl0
        clear hB hrun hrun0 hsl0
        generalize hgg2 : wx.heap.size = g2 at *
        generalize w1 = wx at *
        refine hK.out _ _ (fun _ => trivial) ?_
        clear hK K
        (try simp only [List.getElem_toArray, List.getElem_cons_zero, List.getElem_cons_succ, Act.put, List.setIfInBounds_toArray, List.set_cons_zero, List.set_cons_succ])
        refine wpAnyD_all (rs := [1, 8]) (by kernel_rfl) (by simp) (AllD.cons rfl (by rfl) (fun K hK => ?_) (AllD.cons rfl (by rfl) (fun K hK => ?_) AllD.nil))
        · obtain ⟨w1, hrun0, hsl0, hB⟩ := make_u8 TB wx 32 (by decide)
          have hrun : Sem.run _ (Instr.makeSlice 22 (Value.int IntKind.i64 32) (Value.int IntKind.i64 32)) wx = _ := hrun0
          go_simp
          (try have pa := pa.keepS hB (by intro b hb; first | omega | (simp only [false_or] at hb; omega)))
          (try have HL := Lib.hid (slKeepS HL.out hB (by intro b hb; first | omega | (simp only [false_or] at hb; omega))))
          have HX := Lib.hid (below_then HX.out hB)
          have hz := hB.size
          have HE := Lib.hid hsl0
          clear hB hrun hrun0 hsl0
          generalize hgg1 : wx.heap.size = g1 at *
          generalize w1 = wx at *
          refine hK.out _ _ (fun _ => trivial) ?_
          clear hK K
          (try simp only [List.getElem_toArray, List.getElem_cons_zero, List.getElem_cons_succ, Act.put, List.setIfInBounds_toArray, List.set_cons_zero, List.set_cons_succ])
          refine wpAnyD_take (i := 3) (v := ?_) rfl (by kernel_rfl) (by kernel_rfl) (by kernel_rfl) (by kernel_rfl) (fun _ _ _ h => by first | exact h | cases h.1) (by rfl) (by kernel_rfl) (Or.inl ⟨by rfl, ?_⟩) (by first | exact HS.out | exact hS | exact hdx | exact ⟨hdx, hkx⟩) ?_
          rotate_left
          · (intro w' hw'; (try dsimp only at hw'); skip; go_simp; first | done | with_reducible rfl)
          (try simp only [List.getElem_toArray, List.getElem_cons_zero, List.getElem_cons_succ, Act.put, List.setIfInBounds_toArray, List.set_cons_zero, List.set_cons_succ])
          refine wpAnyD_all (rs := [4, 8]) (by kernel_rfl) (by simp) (AllD.cons rfl (by rfl) (fun K hK => ?_) (AllD.cons rfl (by rfl) (fun K hK => ?_) AllD.nil))
          · go_simp
            refine Calls.mono (sput_c (atomT [120]) (zeroL 32) (zeroL 64) _ _ (Nat.le_refl _) _ _ _ _ _ _ _ _ _ _ _ _ _ _ _ (pa.more (by intro b hb; omega)) (Rep.sl_more HE.out (by intro b hb; omega)) (Rep.sl_more HL.out (by intro b hb; omega)) (HTT.out.next HX.out) (by rw [atomT_wt]; decide) (by decide) (by decide)) ?_
            rintro e wx ⟨eA1, en1, ec1, eA2, en2, ec2, eA3, en3, ec3, rfl, hq, hB⟩
            (try have pa := pa.keepS hB (by intro b hb; first | omega | (simp only [false_or] at hb; omega)))
            (try have HE := Lib.hid (slKeepS HE.out hB (by intro b hb; first | omega | (simp only [false_or] at hb; omega))))
            (try have HL := Lib.hid (slKeepS HL.out hB (by intro b hb; first | omega | (simp only [false_or] at hb; omega))))
            have HX := Lib.hid (below_then HX.out hB)
            have hz := hB.size
            have pe := hq
            clear hq hB
            (try simp only [treeV])
            (rw [HO.out.1, HO.out.2] at *)
            refine hK.out _ _ (fun _ => trivial) ?_
            clear hK K
            (try simp only [List.getElem_toArray, List.getElem_cons_zero, List.getElem_cons_succ, Act.put, List.setIfInBounds_toArray, List.set_cons_zero, List.set_cons_succ])
            refine wpAnyD_take (i := 5) (v := ?_) rfl (by kernel_rfl) (by kernel_rfl) (by kernel_rfl) (by kernel_rfl) (fun _ _ _ h => by first | exact h | cases h.1) (by rfl) (by kernel_rfl) (Or.inl ⟨by rfl, ?_⟩) (by first | exact HS.out | exact hS | exact hdx | exact ⟨hdx, hkx⟩) ?_
            rotate_left
            · (intro w' hw'; (try dsimp only at hw'); skip; go_simp; first | done | with_reducible rfl)
            (try simp only [List.getElem_toArray, List.getElem_cons_zero, List.getElem_cons_succ, Act.put, List.setIfInBounds_toArray, List.set_cons_zero, List.set_cons_succ])
            refine wpAnyD_take (i := 6) (v := ?_) rfl (by kernel_rfl) (by kernel_rfl) (by kernel_rfl) (by kernel_rfl) (fun _ _ _ h => by first | exact h | cases h.1) (by rfl) (by kernel_rfl) (Or.inl ⟨by rfl, ?_⟩) (by first | exact HS.out | exact hS | exact hdx | exact ⟨hdx, hkx⟩) ?_
            rotate_left
            · (intro w' hw'; (try dsimp only at hw'); skip; go_simp; first | done | with_reducible rfl)
            (try simp only [List.getElem_toArray, List.getElem_cons_zero, List.getElem_cons_succ, Act.put, List.setIfInBounds_toArray, List.set_cons_zero, List.set_cons_succ])
            refine wpAnyD_take (i := 7) (v := ?_) rfl (by kernel_rfl) (by kernel_rfl) (by kernel_rfl) (by kernel_rfl) (fun _ _ _ h => by first | exact h | cases h.1) (by rfl) (by kernel_rfl) (Or.inl ⟨by rfl, ?_⟩) (by first | exact HS.out | exact hS | exact hdx | exact ⟨hdx, hkx⟩) ?_
            rotate_left
            · (intro w' hw'; (try dsimp only at hw'); skip; go_simp; first | done | with_reducible rfl)
            (try simp only [List.getElem_toArray, List.getElem_cons_zero, List.getElem_cons_succ, Act.put, List.setIfInBounds_toArray, List.set_cons_zero, List.set_cons_succ])
            refine wpAnyD_all (rs := [8]) (by kernel_rfl) (by simp) (AllD.cons rfl (by rfl) (fun K hK => ?_) AllD.nil)
            go_simp
            have hB := Below.alloc (Below.refl wx.heap.size wx) (Nat.le_refl _) (.cells #[.bool false, .bool false, .slice none 0 0, .slice none 0 0, .slice none 0 0] 25)
            have hin := box_new wx #[.bool false, .bool false, .slice none 0 0, .slice none 0 0, .slice none 0 0] 25
            (try have pe := pe.keepS hB (by intro b hb; first | omega | (simp only [false_or] at hb; omega)))
            have HX := Lib.hid (below_then HX.out hB)
            have hz := hB.size
            have hix := hin
            have hgl := (Array.getElem?_eq_some_iff.1 hix).1
            clear hB hin
            generalize hggi : wx.heap.size = gi at *
            generalize wx.alloc (.cells #[.bool false, .bool false, .slice none 0 0, .slice none 0 0, .slice none 0 0] 25) = wx at *
            refine hK.out _ _ (fun _ => trivial) ?_
            clear hK K
            (try simp only [List.getElem_toArray, List.getElem_cons_zero, List.getElem_cons_succ, Act.put, List.setIfInBounds_toArray, List.set_cons_zero, List.set_cons_succ])
            refine wpAnyD_all (rs := [9]) (by kernel_rfl) (by simp) (AllD.cons rfl (by rfl) (fun K hK => ?_) AllD.nil)
            have hr0 := (boxed hix) 0 _ rfl; have hr1 := (boxed hix) 1 _ rfl; have hr2 := (boxed hix) 2 _ rfl; have hr3 := (boxed hix) 3 _ rfl; have hr4 := (boxed hix) 4 _ rfl
            have hf0 := boxed_frozen hix 0; have hf1 := boxed_frozen hix 1; have hf2 := boxed_frozen hix 2; have hf3 := boxed_frozen hix 3; have hf4 := boxed_frozen hix 4
            go_simp
            have hgr := put5_grown wx gi 0 (.bool (signedT (atomT [120]) (zeroL 32) (zeroL 64)).list) (.bool (signedT (atomT [120]) (zeroL 32) (zeroL 64)).hinted) (.slice eA1 en1 ec1) (.slice eA2 en2 ec2) (.slice eA3 en3 ec3)
            have hnw := put5_box hix 0 (.bool (signedT (atomT [120]) (zeroL 32) (zeroL 64)).list) (.bool (signedT (atomT [120]) (zeroL 32) (zeroL 64)).hinted) (.slice eA1 en1 ec1) (.slice eA2 en2 ec2) (.slice eA3 en3 ec3)
            clear hr0 hr1 hr2 hr3 hr4 hf0 hf1 hf2 hf3 hf4 hix
            (try have pe := pe.farS hgr (by intro b hb; first | omega | (simp only [false_or] at hb; omega)))
            (try have hix := box_grown hix hgr (by simp <;> omega))
            have HX := Lib.hid (HX.out.grown hgr (by omega) fun k hk => by injection hk; omega)
            have hz := hgr.size
            have hix := hnw
            clear hgr hnw
            refine hK.out _ _ (fun _ => trivial) ?_
            clear hK K
            (try simp only [List.getElem_toArray, List.getElem_cons_zero, List.getElem_cons_succ, Act.put, List.setIfInBounds_toArray, List.set_cons_zero, List.set_cons_succ])
            generalize hpq : put5 wx gi 0 (.bool (signedT (atomT [120]) (zeroL 32) (zeroL 64)).list) (.bool (signedT (atomT [120]) (zeroL 32) (zeroL 64)).hinted) (.slice eA1 en1 ec1) (.slice eA2 en2 ec2) (.slice eA3 en3 ec3) = w8 at *
            unfold put5 at hpq
            rw [hpq]
            clear hpq
            refine wpAnyD_take (i := 10) (v := ?_) rfl (by kernel_rfl) (by kernel_rfl) (by kernel_rfl) (by kernel_rfl) (fun _ _ _ h => by first | exact h | cases h.1) (by rfl) (by kernel_rfl) (Or.inl ⟨by rfl, ?_⟩) (by first | exact HS.out | exact hS | exact hdx | exact ⟨hdx, hkx⟩) ?_
            rotate_left
            · (intro w' hw'; (try dsimp only at hw'); skip; go_simp; first | done | with_reducible rfl)
            (try simp only [List.getElem_toArray, List.getElem_cons_zero, List.getElem_cons_succ, Act.put, List.setIfInBounds_toArray, List.set_cons_zero, List.set_cons_succ])
            refine wpAnyD_done (by kernel_rfl) ?_ _
            go_wp2_with fail
            go_meet
            exact ⟨gi, _, _, _, _, _, _, _, _, _, rfl, rfl, pe.more (by intro b hb; omega), hix, HX.out⟩
          · go_simp
            have hB := Below.alloc (Below.refl wx.heap.size wx) (Nat.le_refl _) (.cells #[.bool false, .bool false, .slice none 0 0, .slice none 0 0, .slice none 0 0] 25)
            have hin := box_new wx #[.bool false, .bool false, .slice none 0 0, .slice none 0 0, .slice none 0 0] 25
            (try have pa := pa.keepS hB (by intro b hb; first | omega | (simp only [false_or] at hb; omega)))
            (try have HE := Lib.hid (slKeepS HE.out hB (by intro b hb; first | omega | (simp only [false_or] at hb; omega))))
            (try have HL := Lib.hid (slKeepS HL.out hB (by intro b hb; first | omega | (simp only [false_or] at hb; omega))))
            have HX := Lib.hid (below_then HX.out hB)
            have hz := hB.size
            have hix := hin
            have hgl := (Array.getElem?_eq_some_iff.1 hix).1
            clear hB hin
            generalize hggi : wx.heap.size = gi at *
            generalize wx.alloc (.cells #[.bool false, .bool false, .slice none 0 0, .slice none 0 0, .slice none 0 0] 25) = wx at *
            refine hK.out _ _ (fun _ => trivial) ?_
            clear hK K
            (try simp only [List.getElem_toArray, List.getElem_cons_zero, List.getElem_cons_succ, Act.put, List.setIfInBounds_toArray, List.set_cons_zero, List.set_cons_succ])
            refine wpAnyD_all (rs := [4]) (by kernel_rfl) (by simp) (AllD.cons rfl (by rfl) (fun K hK => ?_) AllD.nil)
            go_simp
            refine Calls.mono (sput_c (atomT [120]) (zeroL 32) (zeroL 64) _ _ (Nat.le_refl _) _ _ _ _ _ _ _ _ _ _ _ _ _ _ _ (pa.more (by intro b hb; omega)) (Rep.sl_more HE.out (by intro b hb; omega)) (Rep.sl_more HL.out (by intro b hb; omega)) (HTT.out.next HX.out) (by rw [atomT_wt]; decide) (by decide) (by decide)) ?_
            rintro e wx ⟨eA1, en1, ec1, eA2, en2, ec2, eA3, en3, ec3, rfl, hq, hB⟩
            (try have pa := pa.keepS hB (by intro b hb; first | omega | (simp only [false_or] at hb; omega)))
            (try have HE := Lib.hid (slKeepS HE.out hB (by intro b hb; first | omega | (simp only [false_or] at hb; omega))))
            (try have HL := Lib.hid (slKeepS HL.out hB (by intro b hb; first | omega | (simp only [false_or] at hb; omega))))
            (try have hix := box_below hix hB (Array.getElem?_eq_some_iff.1 hix).1)
            have HX := Lib.hid (below_then HX.out hB)
            have hz := hB.size
            have pe := hq
            clear hq hB
            (try simp only [treeV])
            (rw [HO.out.1, HO.out.2] at *)
            refine hK.out _ _ (fun _ => trivial) ?_
            clear hK K
            (try simp only [List.getElem_toArray, List.getElem_cons_zero, List.getElem_cons_succ, Act.put, List.setIfInBounds_toArray, List.set_cons_zero, List.set_cons_succ])
            refine wpAnyD_take (i := 5) (v := ?_) rfl (by kernel_rfl) (by kernel_rfl) (by kernel_rfl) (by kernel_rfl) (fun _ _ _ h => by first | exact h | cases h.1) (by rfl) (by kernel_rfl) (Or.inl ⟨by rfl, ?_⟩) (by first | exact HS.out | exact hS | exact hdx | exact ⟨hdx, hkx⟩) ?_
            rotate_left
            · (intro w' hw'; (try dsimp only at hw'); skip; go_simp; first | done | with_reducible rfl)
            (try simp only [List.getElem_toArray, List.getElem_cons_zero, List.getElem_cons_succ, Act.put, List.setIfInBounds_toArray, List.set_cons_zero, List.set_cons_succ])
            refine wpAnyD_take (i := 6) (v := ?_) rfl (by kernel_rfl) (by kernel_rfl) (by kernel_rfl) (by kernel_rfl) (fun _ _ _ h => by first | exact h | cases h.1) (by rfl) (by kernel_rfl) (Or.inl ⟨by rfl, ?_⟩) (by first | exact HS.out | exact hS | exact hdx | exact ⟨hdx, hkx⟩) ?_
            rotate_left
            · (intro w' hw'; (try dsimp only at hw'); skip; go_simp; first | done | with_reducible rfl)
            (try simp only [List.getElem_toArray, List.getElem_cons_zero, List.getElem_cons_succ, Act.put, List.setIfInBounds_toArray, List.set_cons_zero, List.set_cons_succ])
            refine wpAnyD_take (i := 7) (v := ?_) rfl (by kernel_rfl) (by kernel_rfl) (by kernel_rfl) (by kernel_rfl) (fun _ _ _ h => by first | exact h | cases h.1) (by rfl) (by kernel_rfl) (Or.inl ⟨by rfl, ?_⟩) (by first | exact HS.out | exact hS | exact hdx | exact ⟨hdx, hkx⟩) ?_
            rotate_left
            · (intro w' hw'; (try dsimp only at hw'); skip; go_simp; first | done | with_reducible rfl)
            (try simp only [List.getElem_toArray, List.getElem_cons_zero, List.getElem_cons_succ, Act.put, List.setIfInBounds_toArray, List.set_cons_zero, List.set_cons_succ])
            refine wpAnyD_all (rs := [9]) (by kernel_rfl) (by simp) (AllD.cons rfl (by rfl) (fun K hK => ?_) AllD.nil)
            have hr0 := (boxed hix) 0 _ rfl; have hr1 := (boxed hix) 1 _ rfl; have hr2 := (boxed hix) 2 _ rfl; have hr3 := (boxed hix) 3 _ rfl; have hr4 := (boxed hix) 4 _ rfl
            have hf0 := boxed_frozen hix 0; have hf1 := boxed_frozen hix 1; have hf2 := boxed_frozen hix 2; have hf3 := boxed_frozen hix 3; have hf4 := boxed_frozen hix 4
            go_simp
            have hgr := put5_grown wx gi 0 (.bool (signedT (atomT [120]) (zeroL 32) (zeroL 64)).list) (.bool (signedT (atomT [120]) (zeroL 32) (zeroL 64)).hinted) (.slice eA1 en1 ec1) (.slice eA2 en2 ec2) (.slice eA3 en3 ec3)
            have hnw := put5_box hix 0 (.bool (signedT (atomT [120]) (zeroL 32) (zeroL 64)).list) (.bool (signedT (atomT [120]) (zeroL 32) (zeroL 64)).hinted) (.slice eA1 en1 ec1) (.slice eA2 en2 ec2) (.slice eA3 en3 ec3)
            clear hr0 hr1 hr2 hr3 hr4 hf0 hf1 hf2 hf3 hf4 hix
            (try have pe := pe.farS hgr (by intro b hb; first | omega | (simp only [false_or] at hb; omega)))
            (try have hix := box_grown hix hgr (by simp <;> omega))
            have HX := Lib.hid (HX.out.grown hgr (by omega) fun k hk => by injection hk; omega)
            have hz := hgr.size
            have hix := hnw
            clear hgr hnw
            refine hK.out _ _ (fun _ => trivial) ?_
            clear hK K
            (try simp only [List.getElem_toArray, List.getElem_cons_zero, List.getElem_cons_succ, Act.put, List.setIfInBounds_toArray, List.set_cons_zero, List.set_cons_succ])
            generalize hpq : put5 wx gi 0 (.bool (signedT (atomT [120]) (zeroL 32) (zeroL 64)).list) (.bool (signedT (atomT [120]) (zeroL 32) (zeroL 64)).hinted) (.slice eA1 en1 ec1) (.slice eA2 en2 ec2) (.slice eA3 en3 ec3) = w8 at *
            unfold put5 at hpq
            rw [hpq]
            clear hpq
            refine wpAnyD_take (i := 10) (v := ?_) rfl (by kernel_rfl) (by kernel_rfl) (by kernel_rfl) (by kernel_rfl) (fun _ _ _ h => by first | exact h | cases h.1) (by rfl) (by kernel_rfl) (Or.inl ⟨by rfl, ?_⟩) (by first | exact HS.out | exact hS | exact hdx | exact ⟨hdx, hkx⟩) ?_
            rotate_left
            · (intro w' hw'; (try dsimp only at hw'); skip; go_simp; first | done | with_reducible rfl)
            (try simp only [List.getElem_toArray, List.getElem_cons_zero, List.getElem_cons_succ, Act.put, List.setIfInBounds_toArray, List.set_cons_zero, List.set_cons_succ])
            refine wpAnyD_done (by kernel_rfl) ?_ _
            go_wp2_with fail
            go_meet
            exact ⟨gi, _, _, _, _, _, _, _, _, _, rfl, rfl, pe.more (by intro b hb; omega), hix, HX.out⟩
        · go_simp
          have hB := Below.alloc (Below.refl wx.heap.size wx) (Nat.le_refl _) (.cells #[.bool false, .bool false, .slice none 0 0, .slice none 0 0, .slice none 0 0] 25)
          have hin := box_new wx #[.bool false, .bool false, .slice none 0 0, .slice none 0 0, .slice none 0 0] 25
          (try have pa := pa.keepS hB (by intro b hb; first | omega | (simp only [false_or] at hb; omega)))
          (try have HL := Lib.hid (slKeepS HL.out hB (by intro b hb; first | omega | (simp only [false_or] at hb; omega))))
          have HX := Lib.hid (below_then HX.out hB)
          have hz := hB.size
          have hix := hin
          have hgl := (Array.getElem?_eq_some_iff.1 hix).1
          clear hB hin
          generalize hggi : wx.heap.size = gi at *
          generalize wx.alloc (.cells #[.bool false, .bool false, .slice none 0 0, .slice none 0 0, .slice none 0 0] 25) = wx at *
          refine hK.out _ _ (fun _ => trivial) ?_
          clear hK K
          (try simp only [List.getElem_toArray, List.getElem_cons_zero, List.getElem_cons_succ, Act.put, List.setIfInBounds_toArray, List.set_cons_zero, List.set_cons_succ])
          refine wpAnyD_all (rs := [1]) (by kernel_rfl) (by simp) (AllD.cons rfl (by rfl) (fun K hK => ?_) AllD.nil)
          obtain ⟨w1, hrun0, hsl0, hB⟩ := make_u8 TB wx 32 (by decide)
          have hrun : Sem.run _ (Instr.makeSlice 22 (Value.int IntKind.i64 32) (Value.int IntKind.i64 32)) wx = _ := hrun0
          go_simp
          (try have pa := pa.keepS hB (by intro b hb; first | omega | (simp only [false_or] at hb; omega)))
          (try have HL := Lib.hid (slKeepS HL.out hB (by intro b hb; first | omega | (simp only [false_or] at hb; omega))))
          (try have hix := box_below hix hB (Array.getElem?_eq_some_iff.1 hix).1)
          have HX := Lib.hid (below_then HX.out hB)
          have hz := hB.size
          have HE := Lib.hid hsl0
          clear hB hrun hrun0 hsl0
          generalize hgg1 : wx.heap.size = g1 at *
          generalize w1 = wx at *
          refine hK.out _ _ (fun _ => trivial) ?_
          clear hK K
          (try simp only [List.getElem_toArray, List.getElem_cons_zero, List.getElem_cons_succ, Act.put, List.setIfInBounds_toArray, List.set_cons_zero, List.set_cons_succ])
          refine wpAnyD_take (i := 3) (v := ?_) rfl (by kernel_rfl) (by kernel_rfl) (by kernel_rfl) (by kernel_rfl) (fun _ _ _ h => by first | exact h | cases h.1) (by rfl) (by kernel_rfl) (Or.inl ⟨by rfl, ?_⟩) (by first | exact HS.out | exact hS | exact hdx | exact ⟨hdx, hkx⟩) ?_
          rotate_left
          · (intro w' hw'; (try dsimp only at hw'); skip; go_simp; first | done | with_reducible rfl)
          (try simp only [List.getElem_toArray, List.getElem_cons_zero, List.getElem_cons_succ, Act.put, List.setIfInBounds_toArray, List.set_cons_zero, List.set_cons_succ])
          refine wpAnyD_all (rs := [4]) (by kernel_rfl) (by simp) (AllD.cons rfl (by rfl) (fun K hK => ?_) AllD.nil)
          go_simp
          refine Calls.mono (sput_c (atomT [120]) (zeroL 32) (zeroL 64) _ _ (Nat.le_refl _) _ _ _ _ _ _ _ _ _ _ _ _ _ _ _ (pa.more (by intro b hb; omega)) (Rep.sl_more HE.out (by intro b hb; omega)) (Rep.sl_more HL.out (by intro b hb; omega)) (HTT.out.next HX.out) (by rw [atomT_wt]; decide) (by decide) (by decide)) ?_
          rintro e wx ⟨eA1, en1, ec1, eA2, en2, ec2, eA3, en3, ec3, rfl, hq, hB⟩
          (try have pa := pa.keepS hB (by intro b hb; first | omega | (simp only [false_or] at hb; omega)))
          (try have HE := Lib.hid (slKeepS HE.out hB (by intro b hb; first | omega | (simp only [false_or] at hb; omega))))
          (try have HL := Lib.hid (slKeepS HL.out hB (by intro b hb; first | omega | (simp only [false_or] at hb; omega))))
          (try have hix := box_below hix hB (Array.getElem?_eq_some_iff.1 hix).1)
          have HX := Lib.hid (below_then HX.out hB)
          have hz := hB.size
          have pe := hq
          clear hq hB
          (try simp only [treeV])
          (rw [HO.out.1, HO.out.2] at *)
          refine hK.out _ _ (fun _ => trivial) ?_
          clear hK K
          (try simp only [List.getElem_toArray, List.getElem_cons_zero, List.getElem_cons_succ, Act.put, List.setIfInBounds_toArray, List.set_cons_zero, List.set_cons_succ])
          refine wpAnyD_take (i := 5) (v := ?_) rfl (by kernel_rfl) (by kernel_rfl) (by kernel_rfl) (by kernel_rfl) (fun _ _ _ h => by first | exact h | cases h.1) (by rfl) (by kernel_rfl) (Or.inl ⟨by rfl, ?_⟩) (by first | exact HS.out | exact hS | exact hdx | exact ⟨hdx, hkx⟩) ?_
          rotate_left
          · (intro w' hw'; (try dsimp only at hw'); skip; go_simp; first | done | with_reducible rfl)
          (try simp only [List.getElem_toArray, List.getElem_cons_zero, List.getElem_cons_succ, Act.put, List.setIfInBounds_toArray, List.set_cons_zero, List.set_cons_succ])
          refine wpAnyD_take (i := 6) (v := ?_) rfl (by kernel_rfl) (by kernel_rfl) (by kernel_rfl) (by kernel_rfl) (fun _ _ _ h => by first | exact h | cases h.1) (by rfl) (by kernel_rfl) (Or.inl ⟨by rfl, ?_⟩) (by first | exact HS.out | exact hS | exact hdx | exact ⟨hdx, hkx⟩) ?_
          rotate_left
          · (intro w' hw'; (try dsimp only at hw'); skip; go_simp; first | done | with_reducible rfl)
          (try simp only [List.getElem_toArray, List.getElem_cons_zero, List.getElem_cons_succ, Act.put, List.setIfInBounds_toArray, List.set_cons_zero, List.set_cons_succ])
          refine wpAnyD_take (i := 7) (v := ?_) rfl (by kernel_rfl) (by kernel_rfl) (by kernel_rfl) (by kernel_rfl) (fun _ _ _ h => by first | exact h | cases h.1) (by rfl) (by kernel_rfl) (Or.inl ⟨by rfl, ?_⟩) (by first | exact HS.out | exact hS | exact hdx | exact ⟨hdx, hkx⟩) ?_
          rotate_left
          · (intro w' hw'; (try dsimp only at hw'); skip; go_simp; first | done | with_reducible rfl)
          (try simp only [List.getElem_toArray, List.getElem_cons_zero, List.getElem_cons_succ, Act.put, List.setIfInBounds_toArray, List.set_cons_zero, List.set_cons_succ])
          refine wpAnyD_all (rs := [9]) (by kernel_rfl) (by simp) (AllD.cons rfl (by rfl) (fun K hK => ?_) AllD.nil)
          have hr0 := (boxed hix) 0 _ rfl; have hr1 := (boxed hix) 1 _ rfl; have hr2 := (boxed hix) 2 _ rfl; have hr3 := (boxed hix) 3 _ rfl; have hr4 := (boxed hix) 4 _ rfl
          have hf0 := boxed_frozen hix 0; have hf1 := boxed_frozen hix 1; have hf2 := boxed_frozen hix 2; have hf3 := boxed_frozen hix 3; have hf4 := boxed_frozen hix 4
          go_simp
          have hgr := put5_grown wx gi 0 (.bool (signedT (atomT [120]) (zeroL 32) (zeroL 64)).list) (.bool (signedT (atomT [120]) (zeroL 32) (zeroL 64)).hinted) (.slice eA1 en1 ec1) (.slice eA2 en2 ec2) (.slice eA3 en3 ec3)
          have hnw := put5_box hix 0 (.bool (signedT (atomT [120]) (zeroL 32) (zeroL 64)).list) (.bool (signedT (atomT [120]) (zeroL 32) (zeroL 64)).hinted) (.slice eA1 en1 ec1) (.slice eA2 en2 ec2) (.slice eA3 en3 ec3)
          clear hr0 hr1 hr2 hr3 hr4 hf0 hf1 hf2 hf3 hf4 hix
          (try have pe := pe.farS hgr (by intro b hb; first | omega | (simp only [false_or] at hb; omega)))
          (try have hix := box_grown hix hgr (by simp <;> omega))
          have HX := Lib.hid (HX.out.grown hgr (by omega) fun k hk => by injection hk; omega)
          have hz := hgr.size
          have hix := hnw
          clear hgr hnw
          refine hK.out _ _ (fun _ => trivial) ?_
          clear hK K
          (try simp only [List.getElem_toArray, List.getElem_cons_zero, List.getElem_cons_succ, Act.put, List.setIfInBounds_toArray, List.set_cons_zero, List.set_cons_succ])
          generalize hpq : put5 wx gi 0 (.bool (signedT (atomT [120]) (zeroL 32) (zeroL 64)).list) (.bool (signedT (atomT [120]) (zeroL 32) (zeroL 64)).hinted) (.slice eA1 en1 ec1) (.slice eA2 en2 ec2) (.slice eA3 en3 ec3) = w8 at *
          unfold put5 at hpq
          rw [hpq]
          clear hpq
          refine wpAnyD_take (i := 10) (v := ?_) rfl (by kernel_rfl) (by kernel_rfl) (by kernel_rfl) (by kernel_rfl) (fun _ _ _ h => by first | exact h | cases h.1) (by rfl) (by kernel_rfl) (Or.inl ⟨by rfl, ?_⟩) (by first | exact HS.out | exact hS | exact hdx | exact ⟨hdx, hkx⟩) ?_
          rotate_left
          · (intro w' hw'; (try dsimp only at hw'); skip; go_simp; first | done | with_reducible rfl)
          (try simp only [List.getElem_toArray, List.getElem_cons_zero, List.getElem_cons_succ, Act.put, List.setIfInBounds_toArray, List.set_cons_zero, List.set_cons_succ])
          refine wpAnyD_done (by kernel_rfl) ?_ _
          go_wp2_with fail
          go_meet
          exact ⟨gi, _, _, _, _, _, _, _, _, _, rfl, rfl, pe.more (by intro b hb; omega), hix, HX.out⟩
      · go_simp
        have hB := Below.alloc (Below.refl wx.heap.size wx) (Nat.le_refl _) (.cells #[.bool false, .bool false, .slice none 0 0, .slice none 0 0, .slice none 0 0] 25)
        have hin := box_new wx #[.bool false, .bool false, .slice none 0 0, .slice none 0 0, .slice none 0 0] 25
        (try have pa := pa.keepS hB (by intro b hb; first | omega | (simp only [false_or] at hb; omega)))
        have HX := Lib.hid (below_then HX.out hB)
        have hz := hB.size
        have hix := hin
        have hgl := (Array.getElem?_eq_some_iff.1 hix).1
        clear hB hin
        generalize hggi : wx.heap.size = gi at *
        generalize wx.alloc (.cells #[.bool false, .bool false, .slice none 0 0, .slice none 0 0, .slice none 0 0] 25) = wx at *
        refine hK.out _ _ (fun _ => trivial) ?_
        clear hK K
        (try simp only [List.getElem_toArray, List.getElem_cons_zero, List.getElem_cons_succ, Act.put, List.setIfInBounds_toArray, List.set_cons_zero, List.set_cons_succ])
        refine wpAnyD_all (rs := [1, 2]) (by kernel_rfl) (by simp) (AllD.cons rfl (by rfl) (fun K hK => ?_) (AllD.cons rfl (by rfl) (fun K hK => ?_) AllD.nil))
        · obtain ⟨w1, hrun0, hsl0, hB⟩ := make_u8 TB wx 32 (by decide)
          have hrun : Sem.run _ (Instr.makeSlice 22 (Value.int IntKind.i64 32) (Value.int IntKind.i64 32)) wx = _ := hrun0
          go_simp
          (try have pa := pa.keepS hB (by intro b hb; first | omega | (simp only [false_or] at hb; omega)))
          (try have hix := box_below hix hB (Array.getElem?_eq_some_iff.1 hix).1)
          have HX := Lib.hid (below_then HX.out hB)
          have hz := hB.size
          have HE := Lib.hid hsl0
          clear hB hrun hrun0 hsl0
          generalize hgg1 : wx.heap.size = g1 at *
          generalize w1 = wx at *
          refine hK.out _ _ (fun _ => trivial) ?_
          clear hK K
          (try simp only [List.getElem_toArray, List.getElem_cons_zero, List.getElem_cons_succ, Act.put, List.setIfInBounds_toArray, List.set_cons_zero, List.set_cons_succ])
          refine wpAnyD_all (rs := [2]) (by kernel_rfl) (by simp) (AllD.cons rfl (by rfl) (fun K hK => ?_) AllD.nil)
          obtain ⟨w1, hrun0, hsl0, hB⟩ := make_u8 TB wx 64 (by decide)
          have hrun : Sem.run _ (Instr.makeSlice 22 (Value.int IntKind.i64 64) (Value.int IntKind.i64 64)) wx = _ := hrun0
          go_simp
          (try have pa := pa.keepS hB (by intro b hb; first | omega | (simp only [false_or] at hb; omega)))
          (try have HE := Lib.hid (slKeepS HE.out hB (by intro b hb; first | omega | (simp only [false_or] at hb; omega))))
          (try have hix := box_below hix hB (Array.getElem?_eq_some_iff.1 hix).1)
          have HX := Lib.hid (below_then HX.out hB)
          have hz := hB.size
          have HL := Lib.hid hsl0
          clear hB hrun hrun0 hsl0
          generalize hgg2 : wx.heap.size = g2 at *
          generalize w1 = wx at *
          refine hK.out _ _ (fun _ => trivial) ?_
          clear hK K
          (try simp only [List.getElem_toArray, List.getElem_cons_zero, List.getElem_cons_succ, Act.put, List.setIfInBounds_toArray, List.set_cons_zero, List.set_cons_succ])
          refine wpAnyD_take (i := 3) (v := ?_) rfl (by kernel_rfl) (by kernel_rfl) (by kernel_rfl) (by kernel_rfl) (fun _ _ _ h => by first | exact h | cases h.1) (by rfl) (by kernel_rfl) (Or.inl ⟨by rfl, ?_⟩) (by first | exact HS.out | exact hS | exact hdx | exact ⟨hdx, hkx⟩) ?_
          rotate_left
          · (intro w' hw'; (try dsimp only at hw'); skip; go_simp; first | done | with_reducible rfl)
          (try simp only [List.getElem_toArray, List.getElem_cons_zero, List.getElem_cons_succ, Act.put, List.setIfInBounds_toArray, List.set_cons_zero, List.set_cons_succ])
          refine wpAnyD_all (rs := [4]) (by kernel_rfl) (by simp) (AllD.cons rfl (by rfl) (fun K hK => ?_) AllD.nil)
          go_simp
          refine Calls.mono (sput_c (atomT [120]) (zeroL 32) (zeroL 64) _ _ (Nat.le_refl _) _ _ _ _ _ _ _ _ _ _ _ _ _ _ _ (pa.more (by intro b hb; omega)) (Rep.sl_more HE.out (by intro b hb; omega)) (Rep.sl_more HL.out (by intro b hb; omega)) (HTT.out.next HX.out) (by rw [atomT_wt]; decide) (by decide) (by decide)) ?_
          rintro e wx ⟨eA1, en1, ec1, eA2, en2, ec2, eA3, en3, ec3, rfl, hq, hB⟩
          (try have pa := pa.keepS hB (by intro b hb; first | omega | (simp only [false_or] at hb; omega)))
          (try have HE := Lib.hid (slKeepS HE.out hB (by intro b hb; first | omega | (simp only [false_or] at hb; omega))))
          (try have HL := Lib.hid (slKeepS HL.out hB (by intro b hb; first | omega | (simp only [false_or] at hb; omega))))
          (try have hix := box_below hix hB (Array.getElem?_eq_some_iff.1 hix).1)
          have HX := Lib.hid (below_then HX.out hB)
          have hz := hB.size
          have pe := hq
          clear hq hB
          (try simp only [treeV])
          (rw [HO.out.1, HO.out.2] at *)
          refine hK.out _ _ (fun _ => trivial) ?_
          clear hK K
          (try simp only [List.getElem_toArray, List.getElem_cons_zero, List.getElem_cons_succ, Act.put, List.setIfInBounds_toArray, List.set_cons_zero, List.set_cons_succ])
          refine wpAnyD_take (i := 5) (v := ?_) rfl (by kernel_rfl) (by kernel_rfl) (by kernel_rfl) (by kernel_rfl) (fun _ _ _ h => by first | exact h | cases h.1) (by rfl) (by kernel_rfl) (Or.inl ⟨by rfl, ?_⟩) (by first | exact HS.out | exact hS | exact hdx | exact ⟨hdx, hkx⟩) ?_
          rotate_left
          · (intro w' hw'; (try dsimp only at hw'); skip; go_simp; first | done | with_reducible rfl)
          (try simp only [List.getElem_toArray, List.getElem_cons_zero, List.getElem_cons_succ, Act.put, List.setIfInBounds_toArray, List.set_cons_zero, List.set_cons_succ])
          refine wpAnyD_take (i := 6) (v := ?_) rfl (by kernel_rfl) (by kernel_rfl) (by kernel_rfl) (by kernel_rfl) (fun _ _ _ h => by first | exact h | cases h.1) (by rfl) (by kernel_rfl) (Or.inl ⟨by rfl, ?_⟩) (by first | exact HS.out | exact hS | exact hdx | exact ⟨hdx, hkx⟩) ?_
          rotate_left
          · (intro w' hw'; (try dsimp only at hw'); skip; go_simp; first | done | with_reducible rfl)
          (try simp only [List.getElem_toArray, List.getElem_cons_zero, List.getElem_cons_succ, Act.put, List.setIfInBounds_toArray, List.set_cons_zero, List.set_cons_succ])
          refine wpAnyD_take (i := 7) (v := ?_) rfl (by kernel_rfl) (by kernel_rfl) (by kernel_rfl) (by kernel_rfl) (fun _ _ _ h => by first | exact h | cases h.1) (by rfl) (by kernel_rfl) (Or.inl ⟨by rfl, ?_⟩) (by first | exact HS.out | exact hS | exact hdx | exact ⟨hdx, hkx⟩) ?_
          rotate_left
          · (intro w' hw'; (try dsimp only at hw'); skip; go_simp; first | done | with_reducible rfl)
          (try simp only [List.getElem_toArray, List.getElem_cons_zero, List.getElem_cons_succ, Act.put, List.setIfInBounds_toArray, List.set_cons_zero, List.set_cons_succ])
          refine wpAnyD_all (rs := [9]) (by kernel_rfl) (by simp) (AllD.cons rfl (by rfl) (fun K hK => ?_) AllD.nil)
          have hr0 := (boxed hix) 0 _ rfl; have hr1 := (boxed hix) 1 _ rfl; have hr2 := (boxed hix) 2 _ rfl; have hr3 := (boxed hix) 3 _ rfl; have hr4 := (boxed hix) 4 _ rfl
          have hf0 := boxed_frozen hix 0; have hf1 := boxed_frozen hix 1; have hf2 := boxed_frozen hix 2; have hf3 := boxed_frozen hix 3; have hf4 := boxed_frozen hix 4
          go_simp
          have hgr := put5_grown wx gi 0 (.bool (signedT (atomT [120]) (zeroL 32) (zeroL 64)).list) (.bool (signedT (atomT [120]) (zeroL 32) (zeroL 64)).hinted) (.slice eA1 en1 ec1) (.slice eA2 en2 ec2) (.slice eA3 en3 ec3)
          have hnw := put5_box hix 0 (.bool (signedT (atomT [120]) (zeroL 32) (zeroL 64)).list) (.bool (signedT (atomT [120]) (zeroL 32) (zeroL 64)).hinted) (.slice eA1 en1 ec1) (.slice eA2 en2 ec2) (.slice eA3 en3 ec3)
          clear hr0 hr1 hr2 hr3 hr4 hf0 hf1 hf2 hf3 hf4 hix
          (try have pe := pe.farS hgr (by intro b hb; first | omega | (simp only [false_or] at hb; omega)))
          (try have hix := box_grown hix hgr (by simp <;> omega))
          have HX := Lib.hid (HX.out.grown hgr (by omega) fun k hk => by injection hk; omega)
          have hz := hgr.size
          have hix := hnw
          clear hgr hnw
          refine hK.out _ _ (fun _ => trivial) ?_
          clear hK K
          (try simp only [List.getElem_toArray, List.getElem_cons_zero, List.getElem_cons_succ, Act.put, List.setIfInBounds_toArray, List.set_cons_zero, List.set_cons_succ])
          generalize hpq : put5 wx gi 0 (.bool (signedT (atomT [120]) (zeroL 32) (zeroL 64)).list) (.bool (signedT (atomT [120]) (zeroL 32) (zeroL 64)).hinted) (.slice eA1 en1 ec1) (.slice eA2 en2 ec2) (.slice eA3 en3 ec3) = w8 at *
          unfold put5 at hpq
          rw [hpq]
          clear hpq
          refine wpAnyD_take (i := 10) (v := ?_) rfl (by kernel_rfl) (by kernel_rfl) (by kernel_rfl) (by kernel_rfl) (fun _ _ _ h => by first | exact h | cases h.1) (by rfl) (by kernel_rfl) (Or.inl ⟨by rfl, ?_⟩) (by first | exact HS.out | exact hS | exact hdx | exact ⟨hdx, hkx⟩) ?_
          rotate_left
          · (intro w' hw'; (try dsimp only at hw'); skip; go_simp; first | done | with_reducible rfl)
          (try simp only [List.getElem_toArray, List.getElem_cons_zero, List.getElem_cons_succ, Act.put, List.setIfInBounds_toArray, List.set_cons_zero, List.set_cons_succ])
          refine wpAnyD_done (by kernel_rfl) ?_ _
          go_wp2_with fail
          go_meet
          exact ⟨gi, _, _, _, _, _, _, _, _, _, rfl, rfl, pe.more (by intro b hb; omega), hix, HX.out⟩
        · obtain ⟨w1, hrun0, hsl0, hB⟩ := make_u8 TB wx 64 (by decide)
          have hrun : Sem.run _ (Instr.makeSlice 22 (Value.int IntKind.i64 64) (Value.int IntKind.i64 64)) wx = _ := hrun0
          go_simp
          (try have pa := pa.keepS hB (by intro b hb; first | omega | (simp only [false_or] at hb; omega)))
          (try have hix := box_below hix hB (Array.getElem?_eq_some_iff.1 hix).1)
          have HX := Lib.hid (below_then HX.out hB)
          have hz := hB.size
          have HL := Lib.hid hsl0
          clear hB hrun hrun0 hsl0
          generalize hgg2 : wx.heap.size = g2 at *
          generalize w1 = wx at *
          refine hK.out _ _ (fun _ => trivial) ?_
          clear hK K
          (try simp only [List.getElem_toArray, List.getElem_cons_zero, List.getElem_cons_succ, Act.put, List.setIfInBounds_toArray, List.set_cons_zero, List.set_cons_succ])
          refine wpAnyD_all (rs := [1]) (by kernel_rfl) (by simp) (AllD.cons rfl (by rfl) (fun K hK => ?_) AllD.nil)
          obtain ⟨w1, hrun0, hsl0, hB⟩ := make_u8 TB wx 32 (by decide)
          have hrun : Sem.run _ (Instr.makeSlice 22 (Value.int IntKind.i64 32) (Value.int IntKind.i64 32)) wx = _ := hrun0
          go_simp
          (try have pa := pa.keepS hB (by intro b hb; first | omega | (simp only [false_or] at hb; omega)))
          (try have HL := Lib.hid (slKeepS HL.out hB (by intro b hb; first | omega | (simp only [false_or] at hb; omega))))
          (try have hix := box_below hix hB (Array.getElem?_eq_some_iff.1 hix).1)
          have HX := Lib.hid (below_then HX.out hB)
          have hz := hB.size
          have HE := Lib.hid hsl0
          clear hB hrun hrun0 hsl0
          generalize hgg1 : wx.heap.size = g1 at *
          generalize w1 = wx at *
          refine hK.out _ _ (fun _ => trivial) ?_
          clear hK K
          (try simp only [List.getElem_toArray, List.getElem_cons_zero, List.getElem_cons_succ, Act.put, List.setIfInBounds_toArray, List.set_cons_zero, List.set_cons_succ])
          refine wpAnyD_take (i := 3) (v := ?_) rfl (by kernel_rfl) (by kernel_rfl) (by kernel_rfl) (by kernel_rfl) (fun _ _ _ h => by first | exact h | cases h.1) (by rfl) (by kernel_rfl) (Or.inl ⟨by rfl, ?_⟩) (by first | exact HS.out | exact hS | exact hdx | exact ⟨hdx, hkx⟩) ?_
          rotate_left
          · (intro w' hw'; (try dsimp only at hw'); skip; go_simp; first | done | with_reducible rfl)
          (try simp only [List.getElem_toArray, List.getElem_cons_zero, List.getElem_cons_succ, Act.put, List.setIfInBounds_toArray, List.set_cons_zero, List.set_cons_succ])
          refine wpAnyD_all (rs := [4]) (by kernel_rfl) (by simp) (AllD.cons rfl (by rfl) (fun K hK => ?_) AllD.nil)
          go_simp
          refine Calls.mono (sput_c (atomT [120]) (zeroL 32) (zeroL 64) _ _ (Nat.le_refl _) _ _ _ _ _ _ _ _ _ _ _ _ _ _ _ (pa.more (by intro b hb; omega)) (Rep.sl_more HE.out (by intro b hb; omega)) (Rep.sl_more HL.out (by intro b hb; omega)) (HTT.out.next HX.out) (by rw [atomT_wt]; decide) (by decide) (by decide)) ?_
          rintro e wx ⟨eA1, en1, ec1, eA2, en2, ec2, eA3, en3, ec3, rfl, hq, hB⟩
          (try have pa := pa.keepS hB (by intro b hb; first | omega | (simp only [false_or] at hb; omega)))
          (try have HE := Lib.hid (slKeepS HE.out hB (by intro b hb; first | omega | (simp only [false_or] at hb; omega))))
          (try have HL := Lib.hid (slKeepS HL.out hB (by intro b hb; first | omega | (simp only [false_or] at hb; omega))))
          (try have hix := box_below hix hB (Array.getElem?_eq_some_iff.1 hix).1)
          have HX := Lib.hid (below_then HX.out hB)
          have hz := hB.size
          have pe := hq
          clear hq hB
          (try simp only [treeV])
          (rw [HO.out.1, HO.out.2] at *)
          refine hK.out _ _ (fun _ => trivial) ?_
          clear hK K
          (try simp only [List.getElem_toArray, List.getElem_cons_zero, List.getElem_cons_succ, Act.put, List.setIfInBounds_toArray, List.set_cons_zero, List.set_cons_succ])
          refine wpAnyD_take (i := 5) (v := ?_) rfl (by kernel_rfl) (by kernel_rfl) (by kernel_rfl) (by kernel_rfl) (fun _ _ _ h => by first | exact h | cases h.1) (by rfl) (by kernel_rfl) (Or.inl ⟨by rfl, ?_⟩) (by first | exact HS.out | exact hS | exact hdx | exact ⟨hdx, hkx⟩) ?_
          rotate_left
          · (intro w' hw'; (try dsimp only at hw'); skip; go_simp; first | done | with_reducible rfl)
          (try simp only [List.getElem_toArray, List.getElem_cons_zero, List.getElem_cons_succ, Act.put, List.setIfInBounds_toArray, List.set_cons_zero, List.set_cons_succ])
          refine wpAnyD_take (i := 6) (v := ?_) rfl (by kernel_rfl) (by kernel_rfl) (by kernel_rfl) (by kernel_rfl) (fun _ _ _ h => by first | exact h | cases h.1) (by rfl) (by kernel_rfl) (Or.inl ⟨by rfl, ?_⟩) (by first | exact HS.out | exact hS | exact hdx | exact ⟨hdx, hkx⟩) ?_
          rotate_left
          · (intro w' hw'; (try dsimp only at hw'); skip; go_simp; first | done | with_reducible rfl)
          (try simp only [List.getElem_toArray, List.getElem_cons_zero, List.getElem_cons_succ, Act.put, List.setIfInBounds_toArray, List.set_cons_zero, List.set_cons_succ])
          refine wpAnyD_take (i := 7) (v := ?_) rfl (by kernel_rfl) (by kernel_rfl) (by kernel_rfl) (by kernel_rfl) (fun _ _ _ h => by first | exact h | cases h.1) (by rfl) (by kernel_rfl) (Or.inl ⟨by rfl, ?_⟩) (by first | exact HS.out | exact hS | exact hdx | exact ⟨hdx, hkx⟩) ?_
          rotate_left
          · (intro w' hw'; (try dsimp only at hw'); skip; go_simp; first | done | with_reducible rfl)
          (try simp only [List.getElem_toArray, List.getElem_cons_zero, List.getElem_cons_succ, Act.put, List.setIfInBounds_toArray, List.set_cons_zero, List.set_cons_succ])
          refine wpAnyD_all (rs := [9]) (by kernel_rfl) (by simp) (AllD.cons rfl (by rfl) (fun K hK => ?_) AllD.nil)
          have hr0 := (boxed hix) 0 _ rfl; have hr1 := (boxed hix) 1 _ rfl; have hr2 := (boxed hix) 2 _ rfl; have hr3 := (boxed hix) 3 _ rfl; have hr4 := (boxed hix) 4 _ rfl
          have hf0 := boxed_frozen hix 0; have hf1 := boxed_frozen hix 1; have hf2 := boxed_frozen hix 2; have hf3 := boxed_frozen hix 3; have hf4 := boxed_frozen hix 4
          go_simp
          have hgr := put5_grown wx gi 0 (.bool (signedT (atomT [120]) (zeroL 32) (zeroL 64)).list) (.bool (signedT (atomT [120]) (zeroL 32) (zeroL 64)).hinted) (.slice eA1 en1 ec1) (.slice eA2 en2 ec2) (.slice eA3 en3 ec3)
          have hnw := put5_box hix 0 (.bool (signedT (atomT [120]) (zeroL 32) (zeroL 64)).list) (.bool (signedT (atomT [120]) (zeroL 32) (zeroL 64)).hinted) (.slice eA1 en1 ec1) (.slice eA2 en2 ec2) (.slice eA3 en3 ec3)
          clear hr0 hr1 hr2 hr3 hr4 hf0 hf1 hf2 hf3 hf4 hix
          (try have pe := pe.farS hgr (by intro b hb; first | omega | (simp only [false_or] at hb; omega)))
          (try have hix := box_grown hix hgr (by simp <;> omega))
          have HX := Lib.hid (HX.out.grown hgr (by omega) fun k hk => by injection hk; omega)
          have hz := hgr.size
          have hix := hnw
          clear hgr hnw
          refine hK.out _ _ (fun _ => trivial) ?_
          clear hK K
          (try simp only [List.getElem_toArray, List.getElem_cons_zero, List.getElem_cons_succ, Act.put, List.setIfInBounds_toArray, List.set_cons_zero, List.set_cons_succ])
          generalize hpq : put5 wx gi 0 (.bool (signedT (atomT [120]) (zeroL 32) (zeroL 64)).list) (.bool (signedT (atomT [120]) (zeroL 32) (zeroL 64)).hinted) (.slice eA1 en1 ec1) (.slice eA2 en2 ec2) (.slice eA3 en3 ec3) = w8 at *
          unfold put5 at hpq
          rw [hpq]
          clear hpq
          refine wpAnyD_take (i := 10) (v := ?_) rfl (by kernel_rfl) (by kernel_rfl) (by kernel_rfl) (by kernel_rfl) (fun _ _ _ h => by first | exact h | cases h.1) (by rfl) (by kernel_rfl) (Or.inl ⟨by rfl, ?_⟩) (by first | exact HS.out | exact hS | exact hdx | exact ⟨hdx, hkx⟩) ?_
          rotate_left
          · (intro w' hw'; (try dsimp only at hw'); skip; go_simp; first | done | with_reducible rfl)
          (try simp only [List.getElem_toArray, List.getElem_cons_zero, List.getElem_cons_succ, Act.put, List.setIfInBounds_toArray, List.set_cons_zero, List.set_cons_succ])
          refine wpAnyD_done (by kernel_rfl) ?_ _
          go_wp2_with fail
          go_meet
          exact ⟨gi, _, _, _, _, _, _, _, _, _, rfl, rfl, pe.more (by intro b hb; omega), hix, HX.out⟩
    · obtain ⟨w1, hrun0, hsl0, hB⟩ := make_u8 TB wx 32 (by decide)
      have hrun : Sem.run _ (Instr.makeSlice 22 (Value.int IntKind.i64 32) (Value.int IntKind.i64 32)) wx = _ := hrun0
      go_simp
      have HX := Lib.hid (below_then HX.out hB)
      have hz := hB.size
      have HE := Lib.hid hsl0
      clear hB hrun hrun0 hsl0
      generalize hgg1 : wx.heap.size = g1 at *
      generalize w1 = wx at *
      refine hK.out _ _ (fun _ => trivial) ?_
      clear hK K
      (try simp only [List.getElem_toArray, List.getElem_cons_zero, List.getElem_cons_succ, Act.put, List.setIfInBounds_toArray, List.set_cons_zero, List.set_cons_succ])
      refine wpAnyD_all (rs := [0, 2, 8]) (by kernel_rfl) (by simp) (AllD.cons rfl (by rfl) (fun K hK => ?_) (AllD.cons rfl (by rfl) (fun K hK => ?_) (AllD.cons rfl (by rfl) (fun K hK => ?_) AllD.nil)))
      · go_simp
        refine Calls.mono (atomref_c [120] _ _ (Nat.le_refl _) (by decide)) ?_
        rintro e wx ⟨aA1, an1, ac1, aA2, an2, ac2, aA3, an3, ac3, rfl, hq, hB⟩
        (try have HE := Lib.hid (slKeepS HE.out hB (by intro b hb; first | omega | (simp only [false_or] at hb; omega))))
        have HX := Lib.hid (below_then HX.out hB)
        have hz := hB.size
        have pa := hq
        clear hq hB
        (try simp only [treeV])
        refine hK.out _ _ (fun _ => trivial) ?_
        clear hK K
        (try simp only [List.getElem_toArray, List.getElem_cons_zero, List.getElem_cons_succ, Act.put, List.setIfInBounds_toArray, List.set_cons_zero, List.set_cons_succ])
        refine wpAnyD_all (rs := [2, 8]) (by kernel_rfl) (by simp) (AllD.cons rfl (by rfl) (fun K hK => ?_) (AllD.cons rfl (by rfl) (fun K hK => ?_) AllD.nil))
        · obtain ⟨w1, hrun0, hsl0, hB⟩ := make_u8 TB wx 64 (by decide)
          have hrun : Sem.run _ (Instr.makeSlice 22 (Value.int IntKind.i64 64) (Value.int IntKind.i64 64)) wx = _ := hrun0
          go_simp
          (try have pa := pa.keepS hB (by intro b hb; first | omega | (simp only [false_or] at hb; omega)))
          (try have HE := Lib.hid (slKeepS HE.out hB (by intro b hb; first | omega | (simp only [false_or] at hb; omega))))
          have HX := Lib.hid (below_then HX.out hB)
          have hz := hB.size
          have HL := Lib.hid hsl0
          clear hB hrun hrun0 hsl0
          generalize hgg2 : wx.heap.size = g2 at *
          generalize w1 = wx at *
          refine hK.out _ _ (fun _ => trivial) ?_
          clear hK K
          (try simp only [List.getElem_toArray, List.getElem_cons_zero, List.getElem_cons_succ, Act.put, List.setIfInBounds_toArray, List.set_cons_zero, List.set_cons_succ])
          refine wpAnyD_take (i := 3) (v := ?_) rfl (by kernel_rfl) (by kernel_rfl) (by kernel_rfl) (by kernel_rfl) (fun _ _ _ h => by first | exact h | cases h.1) (by rfl) (by kernel_rfl) (Or.inl ⟨by rfl, ?_⟩) (by first | exact HS.out | exact hS | exact hdx | exact ⟨hdx, hkx⟩) ?_
          rotate_left
          · (intro w' hw'; (try dsimp only at hw'); skip; go_simp; first | done | with_reducible rfl)
          (try simp only [List.getElem_toArray, List.getElem_cons_zero, List.getElem_cons_succ, Act.put, List.setIfInBounds_toArray, List.set_cons_zero, List.set_cons_succ])
          refine wpAnyD_all (rs := [4, 8]) (by kernel_rfl) (by simp) (AllD.cons rfl (by rfl) (fun K hK => ?_) (AllD.cons rfl (by rfl) (fun K hK => ?_) AllD.nil))
          · go_simp
            refine Calls.mono (sput_c (atomT [120]) (zeroL 32) (zeroL 64) _ _ (Nat.le_refl _) _ _ _ _ _ _ _ _ _ _ _ _ _ _ _ (pa.more (by intro b hb; omega)) (Rep.sl_more HE.out (by intro b hb; omega)) (Rep.sl_more HL.out (by intro b hb; omega)) (HTT.out.next HX.out) (by rw [atomT_wt]; decide) (by decide) (by decide)) ?_
            rintro e wx ⟨eA1, en1, ec1, eA2, en2, ec2, eA3, en3, ec3, rfl, hq, hB⟩
            (try have pa := pa.keepS hB (by intro b hb; first | omega | (simp only [false_or] at hb; omega)))
            (try have HE := Lib.hid (slKeepS HE.out hB (by intro b hb; first | omega | (simp only [false_or] at hb; omega))))
            (try have HL := Lib.hid (slKeepS HL.out hB (by intro b hb; first | omega | (simp only [false_or] at hb; omega))))
            have HX := Lib.hid (below_then HX.out hB)
            have hz := hB.size
            have pe := hq
            clear hq hB
            (try simp only [treeV])
            (rw [HO.out.1, HO.out.2] at *)
            refine hK.out _ _ (fun _ => trivial) ?_
            clear hK K
            (try simp only [List.getElem_toArray, List.getElem_cons_zero, List.getElem_cons_succ, Act.put, List.setIfInBounds_toArray, List.set_cons_zero, List.set_cons_succ])
            refine wpAnyD_take (i := 5) (v := ?_) rfl (by kernel_rfl) (by kernel_rfl) (by kernel_rfl) (by kernel_rfl) (fun _ _ _ h => by first | exact h | cases h.1) (by rfl) (by kernel_rfl) (Or.inl ⟨by rfl, ?_⟩) (by first | exact HS.out | exact hS | exact hdx | exact ⟨hdx, hkx⟩) ?_
            rotate_left
            · (intro w' hw'; (try dsimp only at hw'); skip; go_simp; first | done | with_reducible rfl)
            (try simp only [List.getElem_toArray, List.getElem_cons_zero, List.getElem_cons_succ, Act.put, List.setIfInBounds_toArray, List.set_cons_zero, List.set_cons_succ])
            refine wpAnyD_take (i := 6) (v := ?_) rfl (by kernel_rfl) (by kernel_rfl) (by kernel_rfl) (by kernel_rfl) (fun _ _ _ h => by first | exact h | cases h.1) (by rfl) (by kernel_rfl) (Or.inl ⟨by rfl, ?_⟩) (by first | exact HS.out | exact hS | exact hdx | exact ⟨hdx, hkx⟩) ?_
            rotate_left
            · (intro w' hw'; (try dsimp only at hw'); skip; go_simp; first | done | with_reducible rfl)
            (try simp only [List.getElem_toArray, List.getElem_cons_zero, List.getElem_cons_succ, Act.put, List.setIfInBounds_toArray, List.set_cons_zero, List.set_cons_succ])
            refine wpAnyD_take (i := 7) (v := ?_) rfl (by kernel_rfl) (by kernel_rfl) (by kernel_rfl) (by kernel_rfl) (fun _ _ _ h => by first | exact h | cases h.1) (by rfl) (by kernel_rfl) (Or.inl ⟨by rfl, ?_⟩) (by first | exact HS.out | exact hS | exact hdx | exact ⟨hdx, hkx⟩) ?_
            rotate_left
            · (intro w' hw'; (try dsimp only at hw'); skip; go_simp; first | done | with_reducible rfl)
            (try simp only [List.getElem_toArray, List.getElem_cons_zero, List.getElem_cons_succ, Act.put, List.setIfInBounds_toArray, List.set_cons_zero, List.set_cons_succ])
            refine wpAnyD_all (rs := [8]) (by kernel_rfl) (by simp) (AllD.cons rfl (by rfl) (fun K hK => ?_) AllD.nil)
            go_simp
            have hB := Below.alloc (Below.refl wx.heap.size wx) (Nat.le_refl _) (.cells #[.bool false, .bool false, .slice none 0 0, .slice none 0 0, .slice none 0 0] 25)
            have hin := box_new wx #[.bool false, .bool false, .slice none 0 0, .slice none 0 0, .slice none 0 0] 25
            (try have pe := pe.keepS hB (by intro b hb; first | omega | (simp only [false_or] at hb; omega)))
            have HX := Lib.hid (below_then HX.out hB)
            have hz := hB.size
            have hix := hin
            have hgl := (Array.getElem?_eq_some_iff.1 hix).1
            clear hB hin
            generalize hggi : wx.heap.size = gi at *
            generalize wx.alloc (.cells #[.bool false, .bool false, .slice none 0 0, .slice none 0 0, .slice none 0 0] 25) = wx at *
            refine hK.out _ _ (fun _ => trivial) ?_
            clear hK K
            (try simp only [List.getElem_toArray, List.getElem_cons_zero, List.getElem_cons_succ, Act.put, List.setIfInBounds_toArray, List.set_cons_zero, List.set_cons_succ])
            refine wpAnyD_all (rs := [9]) (by kernel_rfl) (by simp) (AllD.cons rfl (by rfl) (fun K hK => ?_) AllD.nil)
            have hr0 := (boxed hix) 0 _ rfl; have hr1 := (boxed hix) 1 _ rfl; have hr2 := (boxed hix) 2 _ rfl; have hr3 := (boxed hix) 3 _ rfl; have hr4 := (boxed hix) 4 _ rfl
            have hf0 := boxed_frozen hix 0; have hf1 := boxed_frozen hix 1; have hf2 := boxed_frozen hix 2; have hf3 := boxed_frozen hix 3; have hf4 := boxed_frozen hix 4
            go_simp
            have hgr := put5_grown wx gi 0 (.bool (signedT (atomT [120]) (zeroL 32) (zeroL 64)).list) (.bool (signedT (atomT [120]) (zeroL 32) (zeroL 64)).hinted) (.slice eA1 en1 ec1) (.slice eA2 en2 ec2) (.slice eA3 en3 ec3)
            have hnw := put5_box hix 0 (.bool (signedT (atomT [120]) (zeroL 32) (zeroL 64)).list) (.bool (signedT (atomT [120]) (zeroL 32) (zeroL 64)).hinted) (.slice eA1 en1 ec1) (.slice eA2 en2 ec2) (.slice eA3 en3 ec3)
            clear hr0 hr1 hr2 hr3 hr4 hf0 hf1 hf2 hf3 hf4 hix
            (try have pe := pe.farS hgr (by intro b hb; first | omega | (simp only [false_or] at hb; omega)))
            (try have hix := box_grown hix hgr (by simp <;> omega))
            have HX := Lib.hid (HX.out.grown hgr (by omega) fun k hk => by injection hk; omega)
            have hz := hgr.size
            have hix := hnw
            clear hgr hnw
            refine hK.out _ _ (fun _ => trivial) ?_
            clear hK K
            (try simp only [List.getElem_toArray, List.getElem_cons_zero, List.getElem_cons_succ, Act.put, List.setIfInBounds_toArray, List.set_cons_zero, List.set_cons_succ])
            generalize hpq : put5 wx gi 0 (.bool (signedT (atomT [120]) (zeroL 32) (zeroL 64)).list) (.bool (signedT (atomT [120]) (zeroL 32) (zeroL 64)).hinted) (.slice eA1 en1 ec1) (.slice eA2 en2 ec2) (.slice eA3 en3 ec3) = w8 at *
            unfold put5 at hpq
            rw [hpq]
            clear hpq
            refine wpAnyD_take (i := 10) (v := ?_) rfl (by kernel_rfl) (by kernel_rfl) (by kernel_rfl) (by kernel_rfl) (fun _ _ _ h => by first | exact h | cases h.1) (by rfl) (by kernel_rfl) (Or.inl ⟨by rfl, ?_⟩) (by first | exact HS.out | exact hS | exact hdx | exact ⟨hdx, hkx⟩) ?_
            rotate_left
            · (intro w' hw'; (try dsimp only at hw'); skip; go_simp; first | done | with_reducible rfl)
            (try simp only [List.getElem_toArray, List.getElem_cons_zero, List.getElem_cons_succ, Act.put, List.setIfInBounds_toArray, List.set_cons_zero, List.set_cons_succ])
            refine wpAnyD_done (by kernel_rfl) ?_ _
            go_wp2_with fail
            go_meet
            exact ⟨gi, _, _, _, _, _, _, _, _, _, rfl, rfl, pe.more (by intro b hb; omega), hix, HX.out⟩
          · go_simp
            have hB := Below.alloc (Below.refl wx.heap.size wx) (Nat.le_refl _) (.cells #[.bool false, .bool false, .slice none 0 0, .slice none 0 0, .slice none 0 0] 25)
            have hin := box_new wx #[.bool false, .bool false, .slice none 0 0, .slice none 0 0, .slice none 0 0] 25
            (try have pa := pa.keepS hB (by intro b hb; first | omega | (simp only [false_or] at hb; omega)))
            (try have HE := Lib.hid (slKeepS HE.out hB (by intro b hb; first | omega | (simp only [false_or] at hb; omega))))
            (try have HL := Lib.hid (slKeepS HL.out hB (by intro b hb; first | omega | (simp only [false_or] at hb; omega))))
            have HX := Lib.hid (below_then HX.out hB)
            have hz := hB.size
            have hix := hin
            have hgl := (Array.getElem?_eq_some_iff.1 hix).1
            clear hB hin
            generalize hggi : wx.heap.size = gi at *
            generalize wx.alloc (.cells #[.bool false, .bool false, .slice none 0 0, .slice none 0 0, .slice none 0 0] 25) = wx at *
            refine hK.out _ _ (fun _ => trivial) ?_
            clear hK K
            (try simp only [List.getElem_toArray, List.getElem_cons_zero, List.getElem_cons_succ, Act.put, List.setIfInBounds_toArray, List.set_cons_zero, List.set_cons_succ])
            refine wpAnyD_all (rs := [4]) (by kernel_rfl) (by simp) (AllD.cons rfl (by rfl) (fun K hK => ?_) AllD.nil)
            go_simp
            refine Calls.mono (sput_c (atomT [120]) (zeroL 32) (zeroL 64) _ _ (Nat.le_refl _) _ _ _ _ _ _ _ _ _ _ _ _ _ _ _ (pa.more (by intro b hb; omega)) (Rep.sl_more HE.out (by intro b hb; omega)) (Rep.sl_more HL.out (by intro b hb; omega)) (HTT.out.next HX.out) (by rw [atomT_wt]; decide) (by decide) (by decide)) ?_
            rintro e wx ⟨eA1, en1, ec1, eA2, en2, ec2, eA3, en3, ec3, rfl, hq, hB⟩
            (try have pa := pa.keepS hB (by intro b hb; first | omega | (simp only [false_or] at hb; omega)))
            (try have HE := Lib.hid (slKeepS HE.out hB (by intro b hb; first | omega | (simp only [false_or] at hb; omega))))
            (try have HL := Lib.hid (slKeepS HL.out hB (by intro b hb; first | omega | (simp only [false_or] at hb; omega))))
            (try have hix := box_below hix hB (Array.getElem?_eq_some_iff.1 hix).1)
            have HX := Lib.hid (below_then HX.out hB)
            have hz := hB.size
            have pe := hq
            clear hq hB
            (try simp only [treeV])
            (rw [HO.out.1, HO.out.2] at *)
            refine hK.out _ _ (fun _ => trivial) ?_
            clear hK K
            (try simp only [List.getElem_toArray, List.getElem_cons_zero, List.getElem_cons_succ, Act.put, List.setIfInBounds_toArray, List.set_cons_zero, List.set_cons_succ])
            refine wpAnyD_take (i := 5) (v := ?_) rfl (by kernel_rfl) (by kernel_rfl) (by kernel_rfl) (by kernel_rfl) (fun _ _ _ h => by first | exact h | cases h.1) (by rfl) (by kernel_rfl) (Or.inl ⟨by rfl, ?_⟩) (by first | exact HS.out | exact hS | exact hdx | exact ⟨hdx, hkx⟩) ?_
            rotate_left
            · (intro w' hw'; (try dsimp only at hw'); skip; go_simp; first | done | with_reducible rfl)
            (try simp only [List.getElem_toArray, List.getElem_cons_zero, List.getElem_cons_succ, Act.put, List.setIfInBounds_toArray, List.set_cons_zero, List.set_cons_succ])
            refine wpAnyD_take (i := 6) (v := ?_) rfl (by kernel_rfl) (by kernel_rfl) (by kernel_rfl) (by kernel_rfl) (fun _ _ _ h => by first | exact h | cases h.1) (by rfl) (by kernel_rfl) (Or.inl ⟨by rfl, ?_⟩) (by first | exact HS.out | exact hS | exact hdx | exact ⟨hdx, hkx⟩) ?_
            rotate_left
            · (intro w' hw'; (try dsimp only at hw'); skip; go_simp; first | done | with_reducible rfl)
            (try simp only [List.getElem_toArray, List.getElem_cons_zero, List.getElem_cons_succ, Act.put, List.setIfInBounds_toArray, List.set_cons_zero, List.set_cons_succ])
            refine wpAnyD_take (i := 7) (v := ?_) rfl (by kernel_rfl) (by kernel_rfl) (by kernel_rfl) (by kernel_rfl) (fun _ _ _ h => by first | exact h | cases h.1) (by rfl) (by kernel_rfl) (Or.inl ⟨by rfl, ?_⟩) (by first | exact HS.out | exact hS | exact hdx | exact ⟨hdx, hkx⟩) ?_
            rotate_left
            · (intro w' hw'; (try dsimp only at hw'); skip; go_simp; first | done | with_reducible rfl)
            (try simp only [List.getElem_toArray, List.getElem_cons_zero, List.getElem_cons_succ, Act.put, List.setIfInBounds_toArray, List.set_cons_zero, List.set_cons_succ])
            refine wpAnyD_all (rs := [9]) (by kernel_rfl) (by simp) (AllD.cons rfl (by rfl) (fun K hK => ?_) AllD.nil)
            have hr0 := (boxed hix) 0 _ rfl; have hr1 := (boxed hix) 1 _ rfl; have hr2 := (boxed hix) 2 _ rfl; have hr3 := (boxed hix) 3 _ rfl; have hr4 := (boxed hix) 4 _ rfl
            have hf0 := boxed_frozen hix 0; have hf1 := boxed_frozen hix 1; have hf2 := boxed_frozen hix 2; have hf3 := boxed_frozen hix 3; have hf4 := boxed_frozen hix 4
            go_simp
            have hgr := put5_grown wx gi 0 (.bool (signedT (atomT [120]) (zeroL 32) (zeroL 64)).list) (.bool (signedT (atomT [120]) (zeroL 32) (zeroL 64)).hinted) (.slice eA1 en1 ec1) (.slice eA2 en2 ec2) (.slice eA3 en3 ec3)
            have hnw := put5_box hix 0 (.bool (signedT (atomT [120]) (zeroL 32) (zeroL 64)).list) (.bool (signedT (atomT [120]) (zeroL 32) (zeroL 64)).hinted) (.slice eA1 en1 ec1) (.slice eA2 en2 ec2) (.slice eA3 en3 ec3)
            clear hr0 hr1 hr2 hr3 hr4 hf0 hf1 hf2 hf3 hf4 hix
            (try have pe := pe.farS hgr (by intro b hb; first | omega | (simp only [false_or] at hb; omega)))
            (try have hix := box_grown hix hgr (by simp <;> omega))
            have HX := Lib.hid (HX.out.grown hgr (by omega) fun k hk => by injection hk; omega)
            have hz := hgr.size
            have hix := hnw
            clear hgr hnw
            refine hK.out _ _ (fun _ => trivial) ?_
            clear hK K
            (try simp only [List.getElem_toArray, List.getElem_cons_zero, List.getElem_cons_succ, Act.put, List.setIfInBounds_toArray, List.set_cons_zero, List.set_cons_succ])
            generalize hpq : put5 wx gi 0 (.bool (signedT (atomT [120]) (zeroL 32) (zeroL 64)).list) (.bool (signedT (atomT [120]) (zeroL 32) (zeroL 64)).hinted) (.slice eA1 en1 ec1) (.slice eA2 en2 ec2) (.slice eA3 en3 ec3) = w8 at *
            unfold put5 at hpq
            rw [hpq]
            clear hpq
            refine wpAnyD_take (i := 10) (v := ?_) rfl (by kernel_rfl) (by kernel_rfl) (by kernel_rfl) (by kernel_rfl) (fun _ _ _ h => by first | exact h | cases h.1) (by rfl) (by kernel_rfl) (Or.inl ⟨by rfl, ?_⟩) (by first | exact HS.out | exact hS | exact hdx | exact ⟨hdx, hkx⟩) ?_
            rotate_left
            · (intro w' hw'; (try dsimp only at hw'); skip; go_simp; first | done | with_reducible rfl)
            (try simp only [List.getElem_toArray, List.getElem_cons_zero, List.getElem_cons_succ, Act.put, List.setIfInBounds_toArray, List.set_cons_zero, List.set_cons_succ])
            refine wpAnyD_done (by kernel_rfl) ?_ _
            go_wp2_with fail
            go_meet
            exact ⟨gi, _, _, _, _, _, _, _, _, _, rfl, rfl, pe.more (by intro b hb; omega), hix, HX.out⟩
        · go_simp
          have hB := Below.alloc (Below.refl wx.heap.size wx) (Nat.le_refl _) (.cells #[.bool false, .bool false, .slice none 0 0, .slice none 0 0, .slice none 0 0] 25)
          have hin := box_new wx #[.bool false, .bool false, .slice none 0 0, .slice none 0 0, .slice none 0 0] 25
          (try have pa := pa.keepS hB (by intro b hb; first | omega | (simp only [false_or] at hb; omega)))
          (try have HE := Lib.hid (slKeepS HE.out hB (by intro b hb; first | omega | (simp only [false_or] at hb; omega))))
          have HX := Lib.hid (below_then HX.out hB)
          have hz := hB.size
          have hix := hin
          have hgl := (Array.getElem?_eq_some_iff.1 hix).1
          clear hB hin
          generalize hggi : wx.heap.size = gi at *
          generalize wx.alloc (.cells #[.bool false, .bool false, .slice none 0 0, .slice none 0 0, .slice none 0 0] 25) = wx at *
          refine hK.out _ _ (fun _ => trivial) ?_
          clear hK K
          (try simp only [List.getElem_toArray, List.getElem_cons_zero, List.getElem_cons_succ, Act.put, List.setIfInBounds_toArray, List.set_cons_zero, List.set_cons_succ])
          refine wpAnyD_all (rs := [2]) (by kernel_rfl) (by simp) (AllD.cons rfl (by rfl) (fun K hK => ?_) AllD.nil)
          obtain ⟨w1, hrun0, hsl0, hB⟩ := make_u8 TB wx 64 (by decide)
          have hrun : Sem.run _ (Instr.makeSlice 22 (Value.int IntKind.i64 64) (Value.int IntKind.i64 64)) wx = _ := hrun0
          go_simp
          (try have pa := pa.keepS hB (by intro b hb; first | omega | (simp only [false_or] at hb; omega)))
          (try have HE := Lib.hid (slKeepS HE.out hB (by intro b hb; first | omega | (simp only [false_or] at hb; omega))))
          (try have hix := box_below hix hB (Array.getElem?_eq_some_iff.1 hix).1)
          have HX := Lib.hid (below_then HX.out hB)
          have hz := hB.size
          have HL := Lib.hid hsl0
          clear hB hrun hrun0 hsl0
          generalize hgg2 : wx.heap.size = g2 at *
          generalize w1 = wx at *
          refine hK.out _ _ (fun _ => trivial) ?_
          clear hK K
          (try simp only [List.getElem_toArray, List.getElem_cons_zero, List.getElem_cons_succ, Act.put, List.setIfInBounds_toArray, List.set_cons_zero, List.set_cons_succ])
          refine wpAnyD_take (i := 3) (v := ?_) rfl (by kernel_rfl) (by kernel_rfl) (by kernel_rfl) (by kernel_rfl) (fun _ _ _ h => by first | exact h | cases h.1) (by rfl) (by kernel_rfl) (Or.inl ⟨by rfl, ?_⟩) (by first | exact HS.out | exact hS | exact hdx | exact ⟨hdx, hkx⟩) ?_
          rotate_left
          · (intro w' hw'; (try dsimp only at hw'); skip; go_simp; first | done | with_reducible rfl)
          (try simp only [List.getElem_toArray, List.getElem_cons_zero, List.getElem_cons_succ, Act.put, List.setIfInBounds_toArray, List.set_cons_zero, List.set_cons_succ])
          refine wpAnyD_all (rs := [4]) (by kernel_rfl) (by simp) (AllD.cons rfl (by rfl) (fun K hK => ?_) AllD.nil)
          go_simp
          refine Calls.mono (sput_c (atomT [120]) (zeroL 32) (zeroL 64) _ _ (Nat.le_refl _) _ _ _ _ _ _ _ _ _ _ _ _ _ _ _ (pa.more (by intro b hb; omega)) (Rep.sl_more HE.out (by intro b hb; omega)) (Rep.sl_more HL.out (by intro b hb; omega)) (HTT.out.next HX.out) (by rw [atomT_wt]; decide) (by decide) (by decide)) ?_
          rintro e wx ⟨eA1, en1, ec1, eA2, en2, ec2, eA3, en3, ec3, rfl, hq, hB⟩
          (try have pa := pa.keepS hB (by intro b hb; first | omega | (simp only [false_or] at hb; omega)))
          (try have HE := Lib.hid (slKeepS HE.out hB (by intro b hb; first | omega | (simp only [false_or] at hb; omega))))
          (try have HL := Lib.hid (slKeepS HL.out hB (by intro b hb; first | omega | (simp only [false_or] at hb; omega))))
          (try have hix := box_below hix hB (Array.getElem?_eq_some_iff.1 hix).1)
          have HX := Lib.hid (below_then HX.out hB)
          have hz := hB.size
          have pe := hq
          clear hq hB
          (try simp only [treeV])
          (rw [HO.out.1, HO.out.2] at *)
          refine hK.out _ _ (fun _ => trivial) ?_
          clear hK K
          (try simp only [List.getElem_toArray, List.getElem_cons_zero, List.getElem_cons_succ, Act.put, List.setIfInBounds_toArray, List.set_cons_zero, List.set_cons_succ])
          refine wpAnyD_take (i := 5) (v := ?_) rfl (by kernel_rfl) (by kernel_rfl) (by kernel_rfl) (by kernel_rfl) (fun _ _ _ h => by first | exact h | cases h.1) (by rfl) (by kernel_rfl) (Or.inl ⟨by rfl, ?_⟩) (by first | exact HS.out | exact hS | exact hdx | exact ⟨hdx, hkx⟩) ?_
          rotate_left
          · (intro w' hw'; (try dsimp only at hw'); skip; go_simp; first | done | with_reducible rfl)
          (try simp only [List.getElem_toArray, List.getElem_cons_zero, List.getElem_cons_succ, Act.put, List.setIfInBounds_toArray, List.set_cons_zero, List.set_cons_succ])
          refine wpAnyD_take (i := 6) (v := ?_) rfl (by kernel_rfl) (by kernel_rfl) (by kernel_rfl) (by kernel_rfl) (fun _ _ _ h => by first | exact h | cases h.1) (by rfl) (by kernel_rfl) (Or.inl ⟨by rfl, ?_⟩) (by first | exact HS.out | exact hS | exact hdx | exact ⟨hdx, hkx⟩) ?_
          rotate_left
          · (intro w' hw'; (try dsimp only at hw'); skip; go_simp; first | done | with_reducible rfl)
          (try simp only [List.getElem_toArray, List.getElem_cons_zero, List.getElem_cons_succ, Act.put, List.setIfInBounds_toArray, List.set_cons_zero, List.set_cons_succ])
          refine wpAnyD_take (i := 7) (v := ?_) rfl (by kernel_rfl) (by kernel_rfl) (by kernel_rfl) (by kernel_rfl) (fun _ _ _ h => by first | exact h | cases h.1) (by rfl) (by kernel_rfl) (Or.inl ⟨by rfl, ?_⟩) (by first | exact HS.out | exact hS | exact hdx | exact ⟨hdx, hkx⟩) ?_
          rotate_left
          · (intro w' hw'; (try dsimp only at hw'); skip; go_simp; first | done | with_reducible rfl)
          (try simp only [List.getElem_toArray, List.getElem_cons_zero, List.getElem_cons_succ, Act.put, List.setIfInBounds_toArray, List.set_cons_zero, List.set_cons_succ])
          refine wpAnyD_all (rs := [9]) (by kernel_rfl) (by simp) (AllD.cons rfl (by rfl) (fun K hK => ?_) AllD.nil)
          have hr0 := (boxed hix) 0 _ rfl; have hr1 := (boxed hix) 1 _ rfl; have hr2 := (boxed hix) 2 _ rfl; have hr3 := (boxed hix) 3 _ rfl; have hr4 := (boxed hix) 4 _ rfl
          have hf0 := boxed_frozen hix 0; have hf1 := boxed_frozen hix 1; have hf2 := boxed_frozen hix 2; have hf3 := boxed_frozen hix 3; have hf4 := boxed_frozen hix 4
          go_simp
          have hgr := put5_grown wx gi 0 (.bool (signedT (atomT [120]) (zeroL 32) (zeroL 64)).list) (.bool (signedT (atomT [120]) (zeroL 32) (zeroL 64)).hinted) (.slice eA1 en1 ec1) (.slice eA2 en2 ec2) (.slice eA3 en3 ec3)
          have hnw := put5_box hix 0 (.bool (signedT (atomT [120]) (zeroL 32) (zeroL 64)).list) (.bool (signedT (atomT [120]) (zeroL 32) (zeroL 64)).hinted) (.slice eA1 en1 ec1) (.slice eA2 en2 ec2) (.slice eA3 en3 ec3)
          clear hr0 hr1 hr2 hr3 hr4 hf0 hf1 hf2 hf3 hf4 hix
          (try have pe := pe.farS hgr (by intro b hb; first | omega | (simp only [false_or] at hb; omega)))
          (try have hix := box_grown hix hgr (by simp <;> omega))
          have HX := Lib.hid (HX.out.grown hgr (by omega) fun k hk => by injection hk; omega)
          have hz := hgr.size
          have hix := hnw
          clear hgr hnw
          refine hK.out _ _ (fun _ => trivial) ?_
          clear hK K
          (try simp only [List.getElem_toArray, List.getElem_cons_zero, List.getElem_cons_succ, Act.put, List.setIfInBounds_toArray, List.set_cons_zero, List.set_cons_succ])
          generalize hpq : put5 wx gi 0 (.bool (signedT (atomT [120]) (zeroL 32) (zeroL 64)).list) (.bool (signedT (atomT [120]) (zeroL 32) (zeroL 64)).hinted) (.slice eA1 en1 ec1) (.slice eA2 en2 ec2) (.slice eA3 en3 ec3) = w8 at *
          unfold put5 at hpq
          rw [hpq]
          clear hpq
          refine wpAnyD_take (i := 10) (v := ?_) rfl (by kernel_rfl) (by kernel_rfl) (by kernel_rfl) (by kernel_rfl) (fun _ _ _ h => by first | exact h | cases h.1) (by rfl) (by kernel_rfl) (Or.inl ⟨by rfl, ?_⟩) (by first | exact HS.out | exact hS | exact hdx | exact ⟨hdx, hkx⟩) ?_
          rotate_left
          · (intro w' hw'; (try dsimp only at hw'); skip; go_simp; first | done | with_reducible rfl)
          (try simp only [List.getElem_toArray, List.getElem_cons_zero, List.getElem_cons_succ, Act.put, List.setIfInBounds_toArray, List.set_cons_zero, List.set_cons_succ])
          refine wpAnyD_done (by kernel_rfl) ?_ _
          go_wp2_with fail
          go_meet
          exact ⟨gi, _, _, _, _, _, _, _, _, _, rfl, rfl, pe.more (by intro b hb; omega), hix, HX.out⟩
      · obtain ⟨w1, hrun0, hsl0, hB⟩ := make_u8 TB wx 64 (by decide)
        have hrun : Sem.run _ (Instr.makeSlice 22 (Value.int IntKind.i64 64) (Value.int IntKind.i64 64)) wx = _ := hrun0
        go_simp
        (try have HE := Lib.hid (slKeepS HE.out hB (by intro b hb; first | omega | (simp only [false_or] at hb; omega))))
        have HX := Lib.hid (below_then HX.out hB)
        have hz := hB.size
        have HL := Lib.hid hsl0
        clear hB hrun hrun0 hsl0
        generalize hgg2 : wx.heap.size = g2 at *
        generalize w1 = wx at *
        refine hK.out _ _ (fun _ => trivial) ?_
        clear hK K
        (try simp only [List.getElem_toArray, List.getElem_cons_zero, List.getElem_cons_succ, Act.put, List.setIfInBounds_toArray, List.set_cons_zero, List.set_cons_succ])
        refine wpAnyD_all (rs := [0, 8]) (by kernel_rfl) (by simp) (AllD.cons rfl (by rfl) (fun K hK => ?_) (AllD.cons rfl (by rfl) (fun K hK => ?_) AllD.nil))
        · go_simp
          refine Calls.mono (atomref_c [120] _ _ (Nat.le_refl _) (by decide)) ?_
          rintro e wx ⟨aA1, an1, ac1, aA2, an2, ac2, aA3, an3, ac3, rfl, hq, hB⟩
          (try have HE := Lib.hid (slKeepS HE.out hB (by intro b hb; first | omega | (simp only [false_or] at hb; omega))))
          (try have HL := Lib.hid (slKeepS HL.out hB (by intro b hb; first | omega | (simp only [false_or] at hb; omega))))
          have HX := Lib.hid (below_then HX.out hB)
          have hz := hB.size
          have pa := hq
          clear hq hB
          (try simp only [treeV])
          refine hK.out _ _ (fun _ => trivial) ?_
          clear hK K
          (try simp only [List.getElem_toArray, List.getElem_cons_zero, List.getElem_cons_succ, Act.put, List.setIfInBounds_toArray, List.set_cons_zero, List.set_cons_succ])
          refine wpAnyD_take (i := 3) (v := ?_) rfl (by kernel_rfl) (by kernel_rfl) (by kernel_rfl) (by kernel_rfl) (fun _ _ _ h => by first | exact h | cases h.1) (by rfl) (by kernel_rfl) (Or.inl ⟨by rfl, ?_⟩) (by first | exact HS.out | exact hS | exact hdx | exact ⟨hdx, hkx⟩) ?_
          rotate_left
          · (intro w' hw'; (try dsimp only at hw'); skip; go_simp; first | done | with_reducible rfl)
          (try simp only [List.getElem_toArray, List.getElem_cons_zero, List.getElem_cons_succ, Act.put, List.setIfInBounds_toArray, List.set_cons_zero, List.set_cons_succ])
          refine wpAnyD_all (rs := [4, 8]) (by kernel_rfl) (by simp) (AllD.cons rfl (by rfl) (fun K hK => ?_) (AllD.cons rfl (by rfl) (fun K hK => ?_) AllD.nil))
          · go_simp
            refine Calls.mono (sput_c (atomT [120]) (zeroL 32) (zeroL 64) _ _ (Nat.le_refl _) _ _ _ _ _ _ _ _ _ _ _ _ _ _ _ (pa.more (by intro b hb; omega)) (Rep.sl_more HE.out (by intro b hb; omega)) (Rep.sl_more HL.out (by intro b hb; omega)) (HTT.out.next HX.out) (by rw [atomT_wt]; decide) (by decide) (by decide)) ?_
            rintro e wx ⟨eA1, en1, ec1, eA2, en2, ec2, eA3, en3, ec3, rfl, hq, hB⟩
            (try have pa := pa.keepS hB (by intro b hb; first | omega | (simp only [false_or] at hb; omega)))
            (try have HE := Lib.hid (slKeepS HE.out hB (by intro b hb; first | omega | (simp only [false_or] at hb; omega))))
            (try have HL := Lib.hid (slKeepS HL.out hB (by intro b hb; first | omega | (simp only [false_or] at hb; omega))))
            have HX := Lib.hid (below_then HX.out hB)
            have hz := hB.size
            have pe := hq
            clear hq hB
            (try simp only [treeV])
            (rw [HO.out.1, HO.out.2] at *)
            refine hK.out _ _ (fun _ => trivial) ?_
            clear hK K
            (try simp only [List.getElem_toArray, List.getElem_cons_zero, List.getElem_cons_succ, Act.put, List.setIfInBounds_toArray, List.set_cons_zero, List.set_cons_succ])
            refine wpAnyD_take (i := 5) (v := ?_) rfl (by kernel_rfl) (by kernel_rfl) (by kernel_rfl) (by kernel_rfl) (fun _ _ _ h => by first | exact h | cases h.1) (by rfl) (by kernel_rfl) (Or.inl ⟨by rfl, ?_⟩) (by first | exact HS.out | exact hS | exact hdx | exact ⟨hdx, hkx⟩) ?_
            rotate_left
            · (intro w' hw'; (try dsimp only at hw'); skip; go_simp; first | done | with_reducible rfl)
            (try simp only [List.getElem_toArray, List.getElem_cons_zero, List.getElem_cons_succ, Act.put, List.setIfInBounds_toArray, List.set_cons_zero, List.set_cons_succ])
            refine wpAnyD_take (i := 6) (v := ?_) rfl (by kernel_rfl) (by kernel_rfl) (by kernel_rfl) (by kernel_rfl) (fun _ _ _ h => by first | exact h | cases h.1) (by rfl) (by kernel_rfl) (Or.inl ⟨by rfl, ?_⟩) (by first | exact HS.out | exact hS | exact hdx | exact ⟨hdx, hkx⟩) ?_
            rotate_left
            · (intro w' hw'; (try dsimp only at hw'); skip; go_simp; first | done | with_reducible rfl)
            (try simp only [List.getElem_toArray, List.getElem_cons_zero, List.getElem_cons_succ, Act.put, List.setIfInBounds_toArray, List.set_cons_zero, List.set_cons_succ])
            refine wpAnyD_take (i := 7) (v := ?_) rfl (by kernel_rfl) (by kernel_rfl) (by kernel_rfl) (by kernel_rfl) (fun _ _ _ h => by first | exact h | cases h.1) (by rfl) (by kernel_rfl) (Or.inl ⟨by rfl, ?_⟩) (by first | exact HS.out | exact hS | exact hdx | exact ⟨hdx, hkx⟩) ?_
            rotate_left
            · (intro w' hw'; (try dsimp only at hw'); skip; go_simp; first | done | with_reducible rfl)
            (try simp only [List.getElem_toArray, List.getElem_cons_zero, List.getElem_cons_succ, Act.put, List.setIfInBounds_toArray, List.set_cons_zero, List.set_cons_succ])
            refine wpAnyD_all (rs := [8]) (by kernel_rfl) (by simp) (AllD.cons rfl (by rfl) (fun K hK => ?_) AllD.nil)
            go_simp
            have hB := Below.alloc (Below.refl wx.heap.size wx) (Nat.le_refl _) (.cells #[.bool false, .bool false, .slice none 0 0, .slice none 0 0, .slice none 0 0] 25)
            have hin := box_new wx #[.bool false, .bool false, .slice none 0 0, .slice none 0 0, .slice none 0 0] 25
            (try have pe := pe.keepS hB (by intro b hb; first | omega | (simp only [false_or] at hb; omega)))
            have HX := Lib.hid (below_then HX.out hB)
            have hz := hB.size
            have hix := hin
            have hgl := (Array.getElem?_eq_some_iff.1 hix).1
            clear hB hin
            generalize hggi : wx.heap.size = gi at *
            generalize wx.alloc (.cells #[.bool false, .bool false, .slice none 0 0, .slice none 0 0, .slice none 0 0] 25) = wx at *
            refine hK.out _ _ (fun _ => trivial) ?_
            clear hK K
            (try simp only [List.getElem_toArray, List.getElem_cons_zero, List.getElem_cons_succ, Act.put, List.setIfInBounds_toArray, List.set_cons_zero, List.set_cons_succ])
            refine wpAnyD_all (rs := [9]) (by kernel_rfl) (by simp) (AllD.cons rfl (by rfl) (fun K hK => ?_) AllD.nil)
            have hr0 := (boxed hix) 0 _ rfl; have hr1 := (boxed hix) 1 _ rfl; have hr2 := (boxed hix) 2 _ rfl; have hr3 := (boxed hix) 3 _ rfl; have hr4 := (boxed hix) 4 _ rfl
            have hf0 := boxed_frozen hix 0; have hf1 := boxed_frozen hix 1; have hf2 := boxed_frozen hix 2; have hf3 := boxed_frozen hix 3; have hf4 := boxed_frozen hix 4
            go_simp
            have hgr := put5_grown wx gi 0 (.bool (signedT (atomT [120]) (zeroL 32) (zeroL 64)).list) (.bool (signedT (atomT [120]) (zeroL 32) (zeroL 64)).hinted) (.slice eA1 en1 ec1) (.slice eA2 en2 ec2) (.slice eA3 en3 ec3)
            have hnw := put5_box hix 0 (.bool (signedT (atomT [120]) (zeroL 32) (zeroL 64)).list) (.bool (signedT (atomT [120]) (zeroL 32) (zeroL 64)).hinted) (.slice eA1 en1 ec1) (.slice eA2 en2 ec2) (.slice eA3 en3 ec3)
            clear hr0 hr1 hr2 hr3 hr4 hf0 hf1 hf2 hf3 hf4 hix
            (try have pe := pe.farS hgr (by intro b hb; first | omega | (simp only [false_or] at hb; omega)))
            (try have hix := box_grown hix hgr (by simp <;> omega))
            have HX := Lib.hid (HX.out.grown hgr (by omega) fun k hk => by injection hk; omega)
            have hz := hgr.size
            have hix := hnw
            clear hgr hnw
            refine hK.out _ _ (fun _ => trivial) ?_
            clear hK K
            (try simp only [List.getElem_toArray, List.getElem_cons_zero, List.getElem_cons_succ, Act.put, List.setIfInBounds_toArray, List.set_cons_zero, List.set_cons_succ])
            generalize hpq : put5 wx gi 0 (.bool (signedT (atomT [120]) (zeroL 32) (zeroL 64)).list) (.bool (signedT (atomT [120]) (zeroL 32) (zeroL 64)).hinted) (.slice eA1 en1 ec1) (.slice eA2 en2 ec2) (.slice eA3 en3 ec3) = w8 at *
            unfold put5 at hpq
            rw [hpq]
            clear hpq
            refine wpAnyD_take (i := 10) (v := ?_) rfl (by kernel_rfl) (by kernel_rfl) (by kernel_rfl) (by kernel_rfl) (fun _ _ _ h => by first | exact h | cases h.1) (by rfl) (by kernel_rfl) (Or.inl ⟨by rfl, ?_⟩) (by first | exact HS.out | exact hS | exact hdx | exact ⟨hdx, hkx⟩) ?_
            rotate_left
            · (intro w' hw'; (try dsimp only at hw'); skip; go_simp; first | done | with_reducible rfl)
            (try simp only [List.getElem_toArray, List.getElem_cons_zero, List.getElem_cons_succ, Act.put, List.setIfInBounds_toArray, List.set_cons_zero, List.set_cons_succ])
            refine wpAnyD_done (by kernel_rfl) ?_ _
            go_wp2_with fail
            go_meet
            exact ⟨gi, _, _, _, _, _, _, _, _, _, rfl, rfl, pe.more (by intro b hb; omega), hix, HX.out⟩
          · go_simp
            have hB := Below.alloc (Below.refl wx.heap.size wx) (Nat.le_refl _) (.cells #[.bool false, .bool false, .slice none 0 0, .slice none 0 0, .slice none 0 0] 25)
            have hin := box_new wx #[.bool false, .bool false, .slice none 0 0, .slice none 0 0, .slice none 0 0] 25
            (try have pa := pa.keepS hB (by intro b hb; first | omega | (simp only [false_or] at hb; omega)))
            (try have HE := Lib.hid (slKeepS HE.out hB (by intro b hb; first | omega | (simp only [false_or] at hb; omega))))
            (try have HL := Lib.hid (slKeepS HL.out hB (by intro b hb; first | omega | (simp only [false_or] at hb; omega))))
            have HX := Lib.hid (below_then HX.out hB)
            have hz := hB.size
            have hix := hin
            have hgl := (Array.getElem?_eq_some_iff.1 hix).1
            clear hB hin
            generalize hggi : wx.heap.size = gi at *
            generalize wx.alloc (.cells #[.bool false, .bool false, .slice none 0 0, .slice none 0 0, .slice none 0 0] 25) = wx at *
            refine hK.out _ _ (fun _ => trivial) ?_
            clear hK K
            (try simp only [List.getElem_toArray, List.getElem_cons_zero, List.getElem_cons_succ, Act.put, List.setIfInBounds_toArray, List.set_cons_zero, List.set_cons_succ])
            refine wpAnyD_all (rs := [4]) (by kernel_rfl) (by simp) (AllD.cons rfl (by rfl) (fun K hK => ?_) AllD.nil)
            go_simp
            refine Calls.mono (sput_c (atomT [120]) (zeroL 32) (zeroL 64) _ _ (Nat.le_refl _) _ _ _ _ _ _ _ _ _ _ _ _ _ _ _ (pa.more (by intro b hb; omega)) (Rep.sl_more HE.out (by intro b hb; omega)) (Rep.sl_more HL.out (by intro b hb; omega)) (HTT.out.next HX.out) (by rw [atomT_wt]; decide) (by decide) (by decide)) ?_
            rintro e wx ⟨eA1, en1, ec1, eA2, en2, ec2, eA3, en3, ec3, rfl, hq, hB⟩
            (try have pa := pa.keepS hB (by intro b hb; first | omega | (simp only [false_or] at hb; omega)))
            (try have HE := Lib.hid (slKeepS HE.out hB (by intro b hb; first | omega | (simp only [false_or] at hb; omega))))
            (try have HL := Lib.hid (slKeepS HL.out hB (by intro b hb; first | omega | (simp only [false_or] at hb; omega))))
            (try have hix := box_below hix hB (Array.getElem?_eq_some_iff.1 hix).1)
            have HX := Lib.hid (below_then HX.out hB)
            have hz := hB.size
            have pe := hq
            clear hq hB
            (try simp only [treeV])
            (rw [HO.out.1, HO.out.2] at *)
            refine hK.out _ _ (fun _ => trivial) ?_
            clear hK K
            (try simp only [List.getElem_toArray, List.getElem_cons_zero, List.getElem_cons_succ, Act.put, List.setIfInBounds_toArray, List.set_cons_zero, List.set_cons_succ])
            refine wpAnyD_take (i := 5) (v := ?_) rfl (by kernel_rfl) (by kernel_rfl) (by kernel_rfl) (by kernel_rfl) (fun _ _ _ h => by first | exact h | cases h.1) (by rfl) (by kernel_rfl) (Or.inl ⟨by rfl, ?_⟩) (by first | exact HS.out | exact hS | exact hdx | exact ⟨hdx, hkx⟩) ?_
            rotate_left
            · (intro w' hw'; (try dsimp only at hw'); skip; go_simp; first | done | with_reducible rfl)
            (try simp only [List.getElem_toArray, List.getElem_cons_zero, List.getElem_cons_succ, Act.put, List.setIfInBounds_toArray, List.set_cons_zero, List.set_cons_succ])
            refine wpAnyD_take (i := 6) (v := ?_) rfl (by kernel_rfl) (by kernel_rfl) (by kernel_rfl) (by kernel_rfl) (fun _ _ _ h => by first | exact h | cases h.1) (by rfl) (by kernel_rfl) (Or.inl ⟨by rfl, ?_⟩) (by first | exact HS.out | exact hS | exact hdx | exact ⟨hdx, hkx⟩) ?_
            rotate_left
            · (intro w' hw'; (try dsimp only at hw'); skip; go_simp; first | done | with_reducible rfl)
            (try simp only [List.getElem_toArray, List.getElem_cons_zero, List.getElem_cons_succ, Act.put, List.setIfInBounds_toArray, List.set_cons_zero, List.set_cons_succ])
            refine wpAnyD_take (i := 7) (v := ?_) rfl (by kernel_rfl) (by kernel_rfl) (by kernel_rfl) (by kernel_rfl) (fun _ _ _ h => by first | exact h | cases h.1) (by rfl) (by kernel_rfl) (Or.inl ⟨by rfl, ?_⟩) (by first | exact HS.out | exact hS | exact hdx | exact ⟨hdx, hkx⟩) ?_
            rotate_left
            · (intro w' hw'; (try dsimp only at hw'); skip; go_simp; first | done | with_reducible rfl)
            (try simp only [List.getElem_toArray, List.getElem_cons_zero, List.getElem_cons_succ, Act.put, List.setIfInBounds_toArray, List.set_cons_zero, List.set_cons_succ])
            refine wpAnyD_all (rs := [9]) (by kernel_rfl) (by simp) (AllD.cons rfl (by rfl) (fun K hK => ?_) AllD.nil)
            have hr0 := (boxed hix) 0 _ rfl; have hr1 := (boxed hix) 1 _ rfl; have hr2 := (boxed hix) 2 _ rfl; have hr3 := (boxed hix) 3 _ rfl; have hr4 := (boxed hix) 4 _ rfl
            have hf0 := boxed_frozen hix 0; have hf1 := boxed_frozen hix 1; have hf2 := boxed_frozen hix 2; have hf3 := boxed_frozen hix 3; have hf4 := boxed_frozen hix 4
            go_simp
            have hgr := put5_grown wx gi 0 (.bool (signedT (atomT [120]) (zeroL 32) (zeroL 64)).list) (.bool (signedT (atomT [120]) (zeroL 32) (zeroL 64)).hinted) (.slice eA1 en1 ec1) (.slice eA2 en2 ec2) (.slice eA3 en3 ec3)
            have hnw := put5_box hix 0 (.bool (signedT (atomT [120]) (zeroL 32) (zeroL 64)).list) (.bool (signedT (atomT [120]) (zeroL 32) (zeroL 64)).hinted) (.slice eA1 en1 ec1) (.slice eA2 en2 ec2) (.slice eA3 en3 ec3)
            clear hr0 hr1 hr2 hr3 hr4 hf0 hf1 hf2 hf3 hf4 hix
            (try have pe := pe.farS hgr (by intro b hb; first | omega | (simp only [false_or] at hb; omega)))
            (try have hix := box_grown hix hgr (by simp <;> omega))
            have HX := Lib.hid (HX.out.grown hgr (by omega) fun k hk => by injection hk; omega)
            have hz := hgr.size
            have hix := hnw
            clear hgr hnw
            refine hK.out _ _ (fun _ => trivial) ?_
            clear hK K
            (try simp only [List.getElem_toArray, List.getElem_cons_zero, List.getElem_cons_succ, Act.put, List.setIfInBounds_toArray, List.set_cons_zero, List.set_cons_succ])
            generalize hpq : put5 wx gi 0 (.bool (signedT (atomT [120]) (zeroL 32) (zeroL 64)).list) (.bool (signedT (atomT [120]) (zeroL 32) (zeroL 64)).hinted) (.slice eA1 en1 ec1) (.slice eA2 en2 ec2) (.slice eA3 en3 ec3) = w8 at *
            unfold put5 at hpq
            rw [hpq]
            clear hpq
            refine wpAnyD_take (i := 10) (v := ?_) rfl (by kernel_rfl) (by kernel_rfl) (by kernel_rfl) (by kernel_rfl) (fun _ _ _ h => by first | exact h | cases h.1) (by rfl) (by kernel_rfl) (Or.inl ⟨by rfl, ?_⟩) (by first | exact HS.out | exact hS | exact hdx | exact ⟨hdx, hkx⟩) ?_
            rotate_left
            · (intro w' hw'; (try dsimp only at hw'); skip; go_simp; first | done | with_reducible rfl)
            (try simp only [List.getElem_toArray, List.getElem_cons_zero, List.getElem_cons_succ, Act.put, List.setIfInBounds_toArray, List.set_cons_zero, List.set_cons_succ])
            refine wpAnyD_done (by kernel_rfl) ?_ _
            go_wp2_with fail
            go_meet
            exact ⟨gi, _, _, _, _, _, _, _, _, _, rfl, rfl, pe.more (by intro b hb; omega), hix, HX.out⟩
        · go_simp
          have hB := Below.alloc (Below.refl wx.heap.size wx) (Nat.le_refl _) (.cells #[.bool false, .bool false, .slice none 0 0, .slice none 0 0, .slice none 0 0] 25)
          have hin := box_new wx #[.bool false, .bool false, .slice none 0 0, .slice none 0 0, .slice none 0 0] 25
          (try have HE := Lib.hid (slKeepS HE.out hB (by intro b hb; first | omega | (simp only [false_or] at hb; omega))))
          (try have HL := Lib.hid (slKeepS HL.out hB (by intro b hb; first | omega | (simp only [false_or] at hb; omega))))
          have HX := Lib.hid (below_then HX.out hB)
          have hz := hB.size
          have hix := hin
          have hgl := (Array.getElem?_eq_some_iff.1 hix).1
          clear hB hin
          generalize hggi : wx.heap.size = gi at *
          generalize wx.alloc (.cells #[.bool false, .bool false, .slice none 0 0, .slice none 0 0, .slice none 0 0] 25) = wx at *
          refine hK.out _ _ (fun _ => trivial) ?_
          clear hK K
          (try simp only [List.getElem_toArray, List.getElem_cons_zero, List.getElem_cons_succ, Act.put, List.setIfInBounds_toArray, List.set_cons_zero, List.set_cons_succ])
          refine wpAnyD_all (rs := [0]) (by kernel_rfl) (by simp) (AllD.cons rfl (by rfl) (fun K hK => ?_) AllD.nil)
          go_simp
          refine Calls.mono (atomref_c [120] _ _ (Nat.le_refl _) (by decide)) ?_
          rintro e wx ⟨aA1, an1, ac1, aA2, an2, ac2, aA3, an3, ac3, rfl, hq, hB⟩
          (try have HE := Lib.hid (slKeepS HE.out hB (by intro b hb; first | omega | (simp only [false_or] at hb; omega))))
          (try have HL := Lib.hid (slKeepS HL.out hB (by intro b hb; first | omega | (simp only [false_or] at hb; omega))))
          (try have hix := box_below hix hB (Array.getElem?_eq_some_iff.1 hix).1)
          have HX := Lib.hid (below_then HX.out hB)
          have hz := hB.size
          have pa := hq
          clear hq hB
          (try simp only [treeV])
          refine hK.out _ _ (fun _ => trivial) ?_
          clear hK K
          (try simp only [List.getElem_toArray, List.getElem_cons_zero, List.getElem_cons_succ, Act.put, List.setIfInBounds_toArray, List.set_cons_zero, List.set_cons_succ])
          refine wpAnyD_take (i := 3) (v := ?_) rfl (by kernel_rfl) (by kernel_rfl) (by kernel_rfl) (by kernel_rfl) (fun _ _ _ h => by first | exact h | cases h.1) (by rfl) (by kernel_rfl) (Or.inl ⟨by rfl, ?_⟩) (by first | exact HS.out | exact hS | exact hdx | exact ⟨hdx, hkx⟩) ?_
          rotate_left
          · (intro w' hw'; (try dsimp only at hw'); skip; go_simp; first | done | with_reducible rfl)
          (try simp only [List.getElem_toArray, List.getElem_cons_zero, List.getElem_cons_succ, Act.put, List.setIfInBounds_toArray, List.set_cons_zero, List.set_cons_succ])
          refine wpAnyD_all (rs := [4]) (by kernel_rfl) (by simp) (AllD.cons rfl (by rfl) (fun K hK => ?_) AllD.nil)
          go_simp
          refine Calls.mono (sput_c (atomT [120]) (zeroL 32) (zeroL 64) _ _ (Nat.le_refl _) _ _ _ _ _ _ _ _ _ _ _ _ _ _ _ (pa.more (by intro b hb; omega)) (Rep.sl_more HE.out (by intro b hb; omega)) (Rep.sl_more HL.out (by intro b hb; omega)) (HTT.out.next HX.out) (by rw [atomT_wt]; decide) (by decide) (by decide)) ?_
          rintro e wx ⟨eA1, en1, ec1, eA2, en2, ec2, eA3, en3, ec3, rfl, hq, hB⟩
          (try have pa := pa.keepS hB (by intro b hb; first | omega | (simp only [false_or] at hb; omega)))
          (try have HE := Lib.hid (slKeepS HE.out hB (by intro b hb; first | omega | (simp only [false_or] at hb; omega))))
          (try have HL := Lib.hid (slKeepS HL.out hB (by intro b hb; first | omega | (simp only [false_or] at hb; omega))))
          (try have hix := box_below hix hB (Array.getElem?_eq_some_iff.1 hix).1)
          have HX := Lib.hid (below_then HX.out hB)
          have hz := hB.size
          have pe := hq
          clear hq hB
          (try simp only [treeV])
          (rw [HO.out.1, HO.out.2] at *)
          refine hK.out _ _ (fun _ => trivial) ?_
          clear hK K
          (try simp only [List.getElem_toArray, List.getElem_cons_zero, List.getElem_cons_succ, Act.put, List.setIfInBounds_toArray, List.set_cons_zero, List.set_cons_succ])
          refine wpAnyD_take (i := 5) (v := ?_) rfl (by kernel_rfl) (by kernel_rfl) (by kernel_rfl) (by kernel_rfl) (fun _ _ _ h => by first | exact h | cases h.1) (by rfl) (by kernel_rfl) (Or.inl ⟨by rfl, ?_⟩) (by first | exact HS.out | exact hS | exact hdx | exact ⟨hdx, hkx⟩) ?_
          rotate_left
          · (intro w' hw'; (try dsimp only at hw'); skip; go_simp; first | done | with_reducible rfl)
          (try simp only [List.getElem_toArray, List.getElem_cons_zero, List.getElem_cons_succ, Act.put, List.setIfInBounds_toArray, List.set_cons_zero, List.set_cons_succ])
          refine wpAnyD_take (i := 6) (v := ?_) rfl (by kernel_rfl) (by kernel_rfl) (by kernel_rfl) (by kernel_rfl) (fun _ _ _ h => by first | exact h | cases h.1) (by rfl) (by kernel_rfl) (Or.inl ⟨by rfl, ?_⟩) (by first | exact HS.out | exact hS | exact hdx | exact ⟨hdx, hkx⟩) ?_
          rotate_left
          · (intro w' hw'; (try dsimp only at hw'); skip; go_simp; first | done | with_reducible rfl)
          (try simp only [List.getElem_toArray, List.getElem_cons_zero, List.getElem_cons_succ, Act.put, List.setIfInBounds_toArray, List.set_cons_zero, List.set_cons_succ])
          refine wpAnyD_take (i := 7) (v := ?_) rfl (by kernel_rfl) (by kernel_rfl) (by kernel_rfl) (by kernel_rfl) (fun _ _ _ h => by first | exact h | cases h.1) (by rfl) (by kernel_rfl) (Or.inl ⟨by rfl, ?_⟩) (by first | exact HS.out | exact hS | exact hdx | exact ⟨hdx, hkx⟩) ?_
          rotate_left
          · (intro w' hw'; (try dsimp only at hw'); skip; go_simp; first | done | with_reducible rfl)
          (try simp only [List.getElem_toArray, List.getElem_cons_zero, List.getElem_cons_succ, Act.put, List.setIfInBounds_toArray, List.set_cons_zero, List.set_cons_succ])
          refine wpAnyD_all (rs := [9]) (by kernel_rfl) (by simp) (AllD.cons rfl (by rfl) (fun K hK => ?_) AllD.nil)
          have hr0 := (boxed hix) 0 _ rfl; have hr1 := (boxed hix) 1 _ rfl; have hr2 := (boxed hix) 2 _ rfl; have hr3 := (boxed hix) 3 _ rfl; have hr4 := (boxed hix) 4 _ rfl
          have hf0 := boxed_frozen hix 0; have hf1 := boxed_frozen hix 1; have hf2 := boxed_frozen hix 2; have hf3 := boxed_frozen hix 3; have hf4 := boxed_frozen hix 4
          go_simp
          have hgr := put5_grown wx gi 0 (.bool (signedT (atomT [120]) (zeroL 32) (zeroL 64)).list) (.bool (signedT (atomT [120]) (zeroL 32) (zeroL 64)).hinted) (.slice eA1 en1 ec1) (.slice eA2 en2 ec2) (.slice eA3 en3 ec3)
          have hnw := put5_box hix 0 (.bool (signedT (atomT [120]) (zeroL 32) (zeroL 64)).list) (.bool (signedT (atomT [120]) (zeroL 32) (zeroL 64)).hinted) (.slice eA1 en1 ec1) (.slice eA2 en2 ec2) (.slice eA3 en3 ec3)
          clear hr0 hr1 hr2 hr3 hr4 hf0 hf1 hf2 hf3 hf4 hix
          (try have pe := pe.farS hgr (by intro b hb; first | omega | (simp only [false_or] at hb; omega)))
          (try have hix := box_grown hix hgr (by simp <;> omega))
          have HX := Lib.hid (HX.out.grown hgr (by omega) fun k hk => by injection hk; omega)
          have hz := hgr.size
          have hix := hnw
          clear hgr hnw
          refine hK.out _ _ (fun _ => trivial) ?_
          clear hK K
          (try simp only [List.getElem_toArray, List.getElem_cons_zero, List.getElem_cons_succ, Act.put, List.setIfInBounds_toArray, List.set_cons_zero, List.set_cons_succ])
          generalize hpq : put5 wx gi 0 (.bool (signedT (atomT [120]) (zeroL 32) (zeroL 64)).list) (.bool (signedT (atomT [120]) (zeroL 32) (zeroL 64)).hinted) (.slice eA1 en1 ec1) (.slice eA2 en2 ec2) (.slice eA3 en3 ec3) = w8 at *
          unfold put5 at hpq
          rw [hpq]
          clear hpq
          refine wpAnyD_take (i := 10) (v := ?_) rfl (by kernel_rfl) (by kernel_rfl) (by kernel_rfl) (by kernel_rfl) (fun _ _ _ h => by first | exact h | cases h.1) (by rfl) (by kernel_rfl) (Or.inl ⟨by rfl, ?_⟩) (by first | exact HS.out | exact hS | exact hdx | exact ⟨hdx, hkx⟩) ?_
          rotate_left
          · (intro w' hw'; (try dsimp only at hw'); skip; go_simp; first | done | with_reducible rfl)
          (try simp only [List.getElem_toArray, List.getElem_cons_zero, List.getElem_cons_succ, Act.put, List.setIfInBounds_toArray, List.set_cons_zero, List.set_cons_succ])
          refine wpAnyD_done (by kernel_rfl) ?_ _
          go_wp2_with fail
          go_meet
          exact ⟨gi, _, _, _, _, _, _, _, _, _, rfl, rfl, pe.more (by intro b hb; omega), hix, HX.out⟩
      · go_simp
        have hB := Below.alloc (Below.refl wx.heap.size wx) (Nat.le_refl _) (.cells #[.bool false, .bool false, .slice none 0 0, .slice none 0 0, .slice none 0 0] 25)
        have hin := box_new wx #[.bool false, .bool false, .slice none 0 0, .slice none 0 0, .slice none 0 0] 25
        (try have HE := Lib.hid (slKeepS HE.out hB (by intro b hb; first | omega | (simp only [false_or] at hb; omega))))
        have HX := Lib.hid (below_then HX.out hB)
        have hz := hB.size
        have hix := hin
        have hgl := (Array.getElem?_eq_some_iff.1 hix).1
        clear hB hin
        generalize hggi : wx.heap.size = gi at *
        generalize wx.alloc (.cells #[.bool false, .bool false, .slice none 0 0, .slice none 0 0, .slice none 0 0] 25) = wx at *
        refine hK.out _ _ (fun _ => trivial) ?_
        clear hK K
        (try simp only [List.getElem_toArray, List.getElem_cons_zero, List.getElem_cons_succ, Act.put, List.setIfInBounds_toArray, List.set_cons_zero, List.set_cons_succ])
        refine wpAnyD_all (rs := [0, 2]) (by kernel_rfl) (by simp) (AllD.cons rfl (by rfl) (fun K hK => ?_) (AllD.cons rfl (by rfl) (fun K hK => ?_) AllD.nil))
        · go_simp
          refine Calls.mono (atomref_c [120] _ _ (Nat.le_refl _) (by decide)) ?_
          rintro e wx ⟨aA1, an1, ac1, aA2, an2, ac2, aA3, an3, ac3, rfl, hq, hB⟩
          (try have HE := Lib.hid (slKeepS HE.out hB (by intro b hb; first | omega | (simp only [false_or] at hb; omega))))
          (try have hix := box_below hix hB (Array.getElem?_eq_some_iff.1 hix).1)
          have HX := Lib.hid (below_then HX.out hB)
          have hz := hB.size
          have pa := hq
          clear hq hB
          (try simp only [treeV])
          refine hK.out _ _ (fun _ => trivial) ?_
          clear hK K
          (try simp only [List.getElem_toArray, List.getElem_cons_zero, List.getElem_cons_succ, Act.put, List.setIfInBounds_toArray, List.set_cons_zero, List.set_cons_succ])
          refine wpAnyD_all (rs := [2]) (by kernel_rfl) (by simp) (AllD.cons rfl (by rfl) (fun K hK => ?_) AllD.nil)
          obtain ⟨w1, hrun0, hsl0, hB⟩ := make_u8 TB wx 64 (by decide)
          have hrun : Sem.run _ (Instr.makeSlice 22 (Value.int IntKind.i64 64) (Value.int IntKind.i64 64)) wx = _ := hrun0
          go_simp
          (try have pa := pa.keepS hB (by intro b hb; first | omega | (simp only [false_or] at hb; omega)))
          (try have HE := Lib.hid (slKeepS HE.out hB (by intro b hb; first | omega | (simp only [false_or] at hb; omega))))
          (try have hix := box_below hix hB (Array.getElem?_eq_some_iff.1 hix).1)
          have HX := Lib.hid (below_then HX.out hB)
          have hz := hB.size
          have HL := Lib.hid hsl0
          clear hB hrun hrun0 hsl0
          generalize hgg2 : wx.heap.size = g2 at *
          generalize w1 = wx at *
          refine hK.out _ _ (fun _ => trivial) ?_
          clear hK K
          (try simp only [List.getElem_toArray, List.getElem_cons_zero, List.getElem_cons_succ, Act.put, List.setIfInBounds_toArray, List.set_cons_zero, List.set_cons_succ])
          refine wpAnyD_take (i := 3) (v := ?_) rfl (by kernel_rfl) (by kernel_rfl) (by kernel_rfl) (by kernel_rfl) (fun _ _ _ h => by first | exact h | cases h.1) (by rfl) (by kernel_rfl) (Or.inl ⟨by rfl, ?_⟩) (by first | exact HS.out | exact hS | exact hdx | exact ⟨hdx, hkx⟩) ?_
          rotate_left
          · (intro w' hw'; (try dsimp only at hw'); skip; go_simp; first | done | with_reducible rfl)
          (try simp only [List.getElem_toArray, List.getElem_cons_zero, List.getElem_cons_succ, Act.put, List.setIfInBounds_toArray, List.set_cons_zero, List.set_cons_succ])
          refine wpAnyD_all (rs := [4]) (by kernel_rfl) (by simp) (AllD.cons rfl (by rfl) (fun K hK => ?_) AllD.nil)
          go_simp
          refine Calls.mono (sput_c (atomT [120]) (zeroL 32) (zeroL 64) _ _ (Nat.le_refl _) _ _ _ _ _ _ _ _ _ _ _ _ _ _ _ (pa.more (by intro b hb; omega)) (Rep.sl_more HE.out (by intro b hb; omega)) (Rep.sl_more HL.out (by intro b hb; omega)) (HTT.out.next HX.out) (by rw [atomT_wt]; decide) (by decide) (by decide)) ?_
          rintro e wx ⟨eA1, en1, ec1, eA2, en2, ec2, eA3, en3, ec3, rfl, hq, hB⟩
          (try have pa := pa.keepS hB (by intro b hb; first | omega | (simp only [false_or] at hb; omega)))
          (try have HE := Lib.hid (slKeepS HE.out hB (by intro b hb; first | omega | (simp only [false_or] at hb; omega))))
          (try have HL := Lib.hid (slKeepS HL.out hB (by intro b hb; first | omega | (simp only [false_or] at hb; omega))))
          (try have hix := box_below hix hB (Array.getElem?_eq_some_iff.1 hix).1)
          have HX := Lib.hid (below_then HX.out hB)
          have hz := hB.size
          have pe := hq
          clear hq hB
          (try simp only [treeV])
          (rw [HO.out.1, HO.out.2] at *)
          refine hK.out _ _ (fun _ => trivial) ?_
          clear hK K
          (try simp only [List.getElem_toArray, List.getElem_cons_zero, List.getElem_cons_succ, Act.put, List.setIfInBounds_toArray, List.set_cons_zero, List.set_cons_succ])
          refine wpAnyD_take (i := 5) (v := ?_) rfl (by kernel_rfl) (by kernel_rfl) (by kernel_rfl) (by kernel_rfl) (fun _ _ _ h => by first | exact h | cases h.1) (by rfl) (by kernel_rfl) (Or.inl ⟨by rfl, ?_⟩) (by first | exact HS.out | exact hS | exact hdx | exact ⟨hdx, hkx⟩) ?_
          rotate_left
          · (intro w' hw'; (try dsimp only at hw'); skip; go_simp; first | done | with_reducible rfl)
          (try simp only [List.getElem_toArray, List.getElem_cons_zero, List.getElem_cons_succ, Act.put, List.setIfInBounds_toArray, List.set_cons_zero, List.set_cons_succ])
          refine wpAnyD_take (i := 6) (v := ?_) rfl (by kernel_rfl) (by kernel_rfl) (by kernel_rfl) (by kernel_rfl) (fun _ _ _ h => by first | exact h | cases h.1) (by rfl) (by kernel_rfl) (Or.inl ⟨by rfl, ?_⟩) (by first | exact HS.out | exact hS | exact hdx | exact ⟨hdx, hkx⟩) ?_
          rotate_left
          · (intro w' hw'; (try dsimp only at hw'); skip; go_simp; first | done | with_reducible rfl)
          (try simp only [List.getElem_toArray, List.getElem_cons_zero, List.getElem_cons_succ, Act.put, List.setIfInBounds_toArray, List.set_cons_zero, List.set_cons_succ])
          refine wpAnyD_take (i := 7) (v := ?_) rfl (by kernel_rfl) (by kernel_rfl) (by kernel_rfl) (by kernel_rfl) (fun _ _ _ h => by first | exact h | cases h.1) (by rfl) (by kernel_rfl) (Or.inl ⟨by rfl, ?_⟩) (by first | exact HS.out | exact hS | exact hdx | exact ⟨hdx, hkx⟩) ?_
          rotate_left
          · (intro w' hw'; (try dsimp only at hw'); skip; go_simp; first | done | with_reducible rfl)
          (try simp only [List.getElem_toArray, List.getElem_cons_zero, List.getElem_cons_succ, Act.put, List.setIfInBounds_toArray, List.set_cons_zero, List.set_cons_succ])
          refine wpAnyD_all (rs := [9]) (by kernel_rfl) (by simp) (AllD.cons rfl (by rfl) (fun K hK => ?_) AllD.nil)
          have hr0 := (boxed hix) 0 _ rfl; have hr1 := (boxed hix) 1 _ rfl; have hr2 := (boxed hix) 2 _ rfl; have hr3 := (boxed hix) 3 _ rfl; have hr4 := (boxed hix) 4 _ rfl
          have hf0 := boxed_frozen hix 0; have hf1 := boxed_frozen hix 1; have hf2 := boxed_frozen hix 2; have hf3 := boxed_frozen hix 3; have hf4 := boxed_frozen hix 4
          go_simp
          have hgr := put5_grown wx gi 0 (.bool (signedT (atomT [120]) (zeroL 32) (zeroL 64)).list) (.bool (signedT (atomT [120]) (zeroL 32) (zeroL 64)).hinted) (.slice eA1 en1 ec1) (.slice eA2 en2 ec2) (.slice eA3 en3 ec3)
          have hnw := put5_box hix 0 (.bool (signedT (atomT [120]) (zeroL 32) (zeroL 64)).list) (.bool (signedT (atomT [120]) (zeroL 32) (zeroL 64)).hinted) (.slice eA1 en1 ec1) (.slice eA2 en2 ec2) (.slice eA3 en3 ec3)
          clear hr0 hr1 hr2 hr3 hr4 hf0 hf1 hf2 hf3 hf4 hix
          (try have pe := pe.farS hgr (by intro b hb; first | omega | (simp only [false_or] at hb; omega)))
          (try have hix := box_grown hix hgr (by simp <;> omega))
          have HX := Lib.hid (HX.out.grown hgr (by omega) fun k hk => by injection hk; omega)
          have hz := hgr.size
          have hix := hnw
          clear hgr hnw
          refine hK.out _ _ (fun _ => trivial) ?_
          clear hK K
          (try simp only [List.getElem_toArray, List.getElem_cons_zero, List.getElem_cons_succ, Act.put, List.setIfInBounds_toArray, List.set_cons_zero, List.set_cons_succ])
          generalize hpq : put5 wx gi 0 (.bool (signedT (atomT [120]) (zeroL 32) (zeroL 64)).list) (.bool (signedT (atomT [120]) (zeroL 32) (zeroL 64)).hinted) (.slice eA1 en1 ec1) (.slice eA2 en2 ec2) (.slice eA3 en3 ec3) = w8 at *
          unfold put5 at hpq
          rw [hpq]
          clear hpq
          refine wpAnyD_take (i := 10) (v := ?_) rfl (by kernel_rfl) (by kernel_rfl) (by kernel_rfl) (by kernel_rfl) (fun _ _ _ h => by first | exact h | cases h.1) (by rfl) (by kernel_rfl) (Or.inl ⟨by rfl, ?_⟩) (by first | exact HS.out | exact hS | exact hdx | exact ⟨hdx, hkx⟩) ?_
          rotate_left
          · (intro w' hw'; (try dsimp only at hw'); skip; go_simp; first | done | with_reducible rfl)
          (try simp only [List.getElem_toArray, List.getElem_cons_zero, List.getElem_cons_succ, Act.put, List.setIfInBounds_toArray, List.set_cons_zero, List.set_cons_succ])
          refine wpAnyD_done (by kernel_rfl) ?_ _
          go_wp2_with fail
          go_meet
          exact ⟨gi, _, _, _, _, _, _, _, _, _, rfl, rfl, pe.more (by intro b hb; omega), hix, HX.out⟩
        · obtain ⟨w1, hrun0, hsl0, hB⟩ := make_u8 TB wx 64 (by decide)
          have hrun : Sem.run _ (Instr.makeSlice 22 (Value.int IntKind.i64 64) (Value.int IntKind.i64 64)) wx = _ := hrun0
          go_simp
          (try have HE := Lib.hid (slKeepS HE.out hB (by intro b hb; first | omega | (simp only [false_or] at hb; omega))))
          (try have hix := box_below hix hB (Array.getElem?_eq_some_iff.1 hix).1)
          have HX := Lib.hid (below_then HX.out hB)
          have hz := hB.size
          have HL := Lib.hid hsl0
          clear hB hrun hrun0 hsl0
          generalize hgg2 : wx.heap.size = g2 at *
          generalize w1 = wx at *
          refine hK.out _ _ (fun _ => trivial) ?_
          clear hK K
          (try simp only [List.getElem_toArray, List.getElem_cons_zero, List.getElem_cons_succ, Act.put, List.setIfInBounds_toArray, List.set_cons_zero, List.set_cons_succ])
          refine wpAnyD_all (rs := [0]) (by kernel_rfl) (by simp) (AllD.cons rfl (by rfl) (fun K hK => ?_) AllD.nil)
          go_simp
          refine Calls.mono (atomref_c [120] _ _ (Nat.le_refl _) (by decide)) ?_
          rintro e wx ⟨aA1, an1, ac1, aA2, an2, ac2, aA3, an3, ac3, rfl, hq, hB⟩
          (try have HE := Lib.hid (slKeepS HE.out hB (by intro b hb; first | omega | (simp only [false_or] at hb; omega))))
          (try have HL := Lib.hid (slKeepS HL.out hB (by intro b hb; first | omega | (simp only [false_or] at hb; omega))))
          (try have hix := box_below hix hB (Array.getElem?_eq_some_iff.1 hix).1)
          have HX := Lib.hid (below_then HX.out hB)
          have hz := hB.size
          have pa := hq
          clear hq hB
          (try simp only [treeV])
          refine hK.out _ _ (fun _ => trivial) ?_
          clear hK K
          (try simp only [List.getElem_toArray, List.getElem_cons_zero, List.getElem_cons_succ, Act.put, List.setIfInBounds_toArray, List.set_cons_zero, List.set_cons_succ])
          refine wpAnyD_take (i := 3) (v := ?_) rfl (by kernel_rfl) (by kernel_rfl) (by kernel_rfl) (by kernel_rfl) (fun _ _ _ h => by first | exact h | cases h.1) (by rfl) (by kernel_rfl) (Or.inl ⟨by rfl, ?_⟩) (by first | exact HS.out | exact hS | exact hdx | exact ⟨hdx, hkx⟩) ?_
          rotate_left
          · (intro w' hw'; (try dsimp only at hw'); skip; go_simp; first | done | with_reducible rfl)
          (try simp only [List.getElem_toArray, List.getElem_cons_zero, List.getElem_cons_succ, Act.put, List.setIfInBounds_toArray, List.set_cons_zero, List.set_cons_succ])
          refine wpAnyD_all (rs := [4]) (by kernel_rfl) (by simp) (AllD.cons rfl (by rfl) (fun K hK => ?_) AllD.nil)
          go_simp
          refine Calls.mono (sput_c (atomT [120]) (zeroL 32) (zeroL 64) _ _ (Nat.le_refl _) _ _ _ _ _ _ _ _ _ _ _ _ _ _ _ (pa.more (by intro b hb; omega)) (Rep.sl_more HE.out (by intro b hb; omega)) (Rep.sl_more HL.out (by intro b hb; omega)) (HTT.out.next HX.out) (by rw [atomT_wt]; decide) (by decide) (by decide)) ?_
          rintro e wx ⟨eA1, en1, ec1, eA2, en2, ec2, eA3, en3, ec3, rfl, hq, hB⟩
          (try have pa := pa.keepS hB (by intro b hb; first | omega | (simp only [false_or] at hb; omega)))
          (try have HE := Lib.hid (slKeepS HE.out hB (by intro b hb; first | omega | (simp only [false_or] at hb; omega))))
          (try have HL := Lib.hid (slKeepS HL.out hB (by intro b hb; first | omega | (simp only [false_or] at hb; omega))))
          (try have hix := box_below hix hB (Array.getElem?_eq_some_iff.1 hix).1)
          have HX := Lib.hid (below_then HX.out hB)
          have hz := hB.size
          have pe := hq
          clear hq hB
          (try simp only [treeV])
          (rw [HO.out.1, HO.out.2] at *)
          refine hK.out _ _ (fun _ => trivial) ?_
          clear hK K
          (try simp only [List.getElem_toArray, List.getElem_cons_zero, List.getElem_cons_succ, Act.put, List.setIfInBounds_toArray, List.set_cons_zero, List.set_cons_succ])
          refine wpAnyD_take (i := 5) (v := ?_) rfl (by kernel_rfl) (by kernel_rfl) (by kernel_rfl) (by kernel_rfl) (fun _ _ _ h => by first | exact h | cases h.1) (by rfl) (by kernel_rfl) (Or.inl ⟨by rfl, ?_⟩) (by first | exact HS.out | exact hS | exact hdx | exact ⟨hdx, hkx⟩) ?_
          rotate_left
          · (intro w' hw'; (try dsimp only at hw'); skip; go_simp; first | done | with_reducible rfl)
          (try simp only [List.getElem_toArray, List.getElem_cons_zero, List.getElem_cons_succ, Act.put, List.setIfInBounds_toArray, List.set_cons_zero, List.set_cons_succ])
          refine wpAnyD_take (i := 6) (v := ?_) rfl (by kernel_rfl) (by kernel_rfl) (by kernel_rfl) (by kernel_rfl) (fun _ _ _ h => by first | exact h | cases h.1) (by rfl) (by kernel_rfl) (Or.inl ⟨by rfl, ?_⟩) (by first | exact HS.out | exact hS | exact hdx | exact ⟨hdx, hkx⟩) ?_
          rotate_left
          · (intro w' hw'; (try dsimp only at hw'); skip; go_simp; first | done | with_reducible rfl)
          (try simp only [List.getElem_toArray, List.getElem_cons_zero, List.getElem_cons_succ, Act.put, List.setIfInBounds_toArray, List.set_cons_zero, List.set_cons_succ])
          refine wpAnyD_take (i := 7) (v := ?_) rfl (by kernel_rfl) (by kernel_rfl) (by kernel_rfl) (by kernel_rfl) (fun _ _ _ h => by first | exact h | cases h.1) (by rfl) (by kernel_rfl) (Or.inl ⟨by rfl, ?_⟩) (by first | exact HS.out | exact hS | exact hdx | exact ⟨hdx, hkx⟩) ?_
          rotate_left
          · (intro w' hw'; (try dsimp only at hw'); skip; go_simp; first | done | with_reducible rfl)
          (try simp only [List.getElem_toArray, List.getElem_cons_zero, List.getElem_cons_succ, Act.put, List.setIfInBounds_toArray, List.set_cons_zero, List.set_cons_succ])
          refine wpAnyD_all (rs := [9]) (by kernel_rfl) (by simp) (AllD.cons rfl (by rfl) (fun K hK => ?_) AllD.nil)
          have hr0 := (boxed hix) 0 _ rfl; have hr1 := (boxed hix) 1 _ rfl; have hr2 := (boxed hix) 2 _ rfl; have hr3 := (boxed hix) 3 _ rfl; have hr4 := (boxed hix) 4 _ rfl
          have hf0 := boxed_frozen hix 0; have hf1 := boxed_frozen hix 1; have hf2 := boxed_frozen hix 2; have hf3 := boxed_frozen hix 3; have hf4 := boxed_frozen hix 4
          go_simp
          have hgr := put5_grown wx gi 0 (.bool (signedT (atomT [120]) (zeroL 32) (zeroL 64)).list) (.bool (signedT (atomT [120]) (zeroL 32) (zeroL 64)).hinted) (.slice eA1 en1 ec1) (.slice eA2 en2 ec2) (.slice eA3 en3 ec3)
          have hnw := put5_box hix 0 (.bool (signedT (atomT [120]) (zeroL 32) (zeroL 64)).list) (.bool (signedT (atomT [120]) (zeroL 32) (zeroL 64)).hinted) (.slice eA1 en1 ec1) (.slice eA2 en2 ec2) (.slice eA3 en3 ec3)
          clear hr0 hr1 hr2 hr3 hr4 hf0 hf1 hf2 hf3 hf4 hix
          (try have pe := pe.farS hgr (by intro b hb; first | omega | (simp only [false_or] at hb; omega)))
          (try have hix := box_grown hix hgr (by simp <;> omega))
          have HX := Lib.hid (HX.out.grown hgr (by omega) fun k hk => by injection hk; omega)
          have hz := hgr.size
          have hix := hnw
          clear hgr hnw
          refine hK.out _ _ (fun _ => trivial) ?_
          clear hK K
          (try simp only [List.getElem_toArray, List.getElem_cons_zero, List.getElem_cons_succ, Act.put, List.setIfInBounds_toArray, List.set_cons_zero, List.set_cons_succ])
          generalize hpq : put5 wx gi 0 (.bool (signedT (atomT [120]) (zeroL 32) (zeroL 64)).list) (.bool (signedT (atomT [120]) (zeroL 32) (zeroL 64)).hinted) (.slice eA1 en1 ec1) (.slice eA2 en2 ec2) (.slice eA3 en3 ec3) = w8 at *
          unfold put5 at hpq
          rw [hpq]
          clear hpq
          refine wpAnyD_take (i := 10) (v := ?_) rfl (by kernel_rfl) (by kernel_rfl) (by kernel_rfl) (by kernel_rfl) (fun _ _ _ h => by first | exact h | cases h.1) (by rfl) (by kernel_rfl) (Or.inl ⟨by rfl, ?_⟩) (by first | exact HS.out | exact hS | exact hdx | exact ⟨hdx, hkx⟩) ?_
          rotate_left
          · (intro w' hw'; (try dsimp only at hw'); skip; go_simp; first | done | with_reducible rfl)
          (try simp only [List.getElem_toArray, List.getElem_cons_zero, List.getElem_cons_succ, Act.put, List.setIfInBounds_toArray, List.set_cons_zero, List.set_cons_succ])
          refine wpAnyD_done (by kernel_rfl) ?_ _
          go_wp2_with fail
          go_meet
          exact ⟨gi, _, _, _, _, _, _, _, _, _, rfl, rfl, pe.more (by intro b hb; omega), hix, HX.out⟩
    · obtain ⟨w1, hrun0, hsl0, hB⟩ := make_u8 TB wx 64 (by decide)
      have hrun : Sem.run _ (Instr.makeSlice 22 (Value.int IntKind.i64 64) (Value.int IntKind.i64 64)) wx = _ := hrun0
      go_simp
      have HX := Lib.hid (below_then HX.out hB)
      have hz := hB.size
      have HL := Lib.hid hsl0
      clear hB hrun hrun0 hsl0
      generalize hgg2 : wx.heap.size = g2 at *
      generalize w1 = wx at *
      refine hK.out _ _ (fun _ => trivial) ?_
      clear hK K
      (try simp only [List.getElem_toArray, List.getElem_cons_zero, List.getElem_cons_succ, Act.put, List.setIfInBounds_toArray, List.set_cons_zero, List.set_cons_succ])
      refine wpAnyD_all (rs := [0, 1, 8]) (by kernel_rfl) (by simp) (AllD.cons rfl (by rfl) (fun K hK => ?_) (AllD.cons rfl (by rfl) (fun K hK => ?_) (AllD.cons rfl (by rfl) (fun K hK => ?_) AllD.nil)))
      · go_simp
        refine Calls.mono (atomref_c [120] _ _ (Nat.le_refl _) (by decide)) ?_
        rintro e wx ⟨aA1, an1, ac1, aA2, an2, ac2, aA3, an3, ac3, rfl, hq, hB⟩
        (try have HL := Lib.hid (slKeepS HL.out hB (by intro b hb; first | omega | (simp only [false_or] at hb; omega))))
        have HX := Lib.hid (below_then HX.out hB)
        have hz := hB.size
        have pa := hq
        clear hq hB
        (try simp only [treeV])
        refine hK.out _ _ (fun _ => trivial) ?_
        clear hK K
        (try simp only [List.getElem_toArray, List.getElem_cons_zero, List.getElem_cons_succ, Act.put, List.setIfInBounds_toArray, List.set_cons_zero, List.set_cons_succ])
        refine wpAnyD_all (rs := [1, 8]) (by kernel_rfl) (by simp) (AllD.cons rfl (by rfl) (fun K hK => ?_) (AllD.cons rfl (by rfl) (fun K hK => ?_) AllD.nil))
        · obtain ⟨w1, hrun0, hsl0, hB⟩ := make_u8 TB wx 32 (by decide)
          have hrun : Sem.run _ (Instr.makeSlice 22 (Value.int IntKind.i64 32) (Value.int IntKind.i64 32)) wx = _ := hrun0
          go_simp
          (try have pa := pa.keepS hB (by intro b hb; first | omega | (simp only [false_or] at hb; omega)))
          (try have HL := Lib.hid (slKeepS HL.out hB (by intro b hb; first | omega | (simp only [false_or] at hb; omega))))
          have HX := Lib.hid (below_then HX.out hB)
          have hz := hB.size
          have HE := Lib.hid hsl0
          clear hB hrun hrun0 hsl0
          generalize hgg1 : wx.heap.size = g1 at *
          generalize w1 = wx at *
          refine hK.out _ _ (fun _ => trivial) ?_
          clear hK K
          (try simp only [List.getElem_toArray, List.getElem_cons_zero, List.getElem_cons_succ, Act.put, List.setIfInBounds_toArray, List.set_cons_zero, List.set_cons_succ])
          refine wpAnyD_take (i := 3) (v := ?_) rfl (by kernel_rfl) (by kernel_rfl) (by kernel_rfl) (by kernel_rfl) (fun _ _ _ h => by first | exact h | cases h.1) (by rfl) (by kernel_rfl) (Or.inl ⟨by rfl, ?_⟩) (by first | exact HS.out | exact hS | exact hdx | exact ⟨hdx, hkx⟩) ?_
          rotate_left
          · (intro w' hw'; (try dsimp only at hw'); skip; go_simp; first | done | with_reducible rfl)
          (try simp only [List.getElem_toArray, List.getElem_cons_zero, List.getElem_cons_succ, Act.put, List.setIfInBounds_toArray, List.set_cons_zero, List.set_cons_succ])
          refine wpAnyD_all (rs := [4, 8]) (by kernel_rfl) (by simp) (AllD.cons rfl (by rfl) (fun K hK => ?_) (AllD.cons rfl (by rfl) (fun K hK => ?_) AllD.nil))
          · go_simp
            refine Calls.mono (sput_c (atomT [120]) (zeroL 32) (zeroL 64) _ _ (Nat.le_refl _) _ _ _ _ _ _ _ _ _ _ _ _ _ _ _ (pa.more (by intro b hb; omega)) (Rep.sl_more HE.out (by intro b hb; omega)) (Rep.sl_more HL.out (by intro b hb; omega)) (HTT.out.next HX.out) (by rw [atomT_wt]; decide) (by decide) (by decide)) ?_
            rintro e wx ⟨eA1, en1, ec1, eA2, en2, ec2, eA3, en3, ec3, rfl, hq, hB⟩
            (try have pa := pa.keepS hB (by intro b hb; first | omega | (simp only [false_or] at hb; omega)))
            (try have HE := Lib.hid (slKeepS HE.out hB (by intro b hb; first | omega | (simp only [false_or] at hb; omega))))
            (try have HL := Lib.hid (slKeepS HL.out hB (by intro b hb; first | omega | (simp only [false_or] at hb; omega))))
            have HX := Lib.hid (below_then HX.out hB)
            have hz := hB.size
            have pe := hq
            clear hq hB
            (try simp only [treeV])
            (rw [HO.out.1, HO.out.2] at *)
            refine hK.out _ _ (fun _ => trivial) ?_
            clear hK K
            (try simp only [List.getElem_toArray, List.getElem_cons_zero, List.getElem_cons_succ, Act.put, List.setIfInBounds_toArray, List.set_cons_zero, List.set_cons_succ])
            refine wpAnyD_take (i := 5) (v := ?_) rfl (by kernel_rfl) (by kernel_rfl) (by kernel_rfl) (by kernel_rfl) (fun _ _ _ h => by first | exact h | cases h.1) (by rfl) (by kernel_rfl) (Or.inl ⟨by rfl, ?_⟩) (by first | exact HS.out | exact hS | exact hdx | exact ⟨hdx, hkx⟩) ?_
            rotate_left
            · (intro w' hw'; (try dsimp only at hw'); skip; go_simp; first | done | with_reducible rfl)
            (try simp only [List.getElem_toArray, List.getElem_cons_zero, List.getElem_cons_succ, Act.put, List.setIfInBounds_toArray, List.set_cons_zero, List.set_cons_succ])
            refine wpAnyD_take (i := 6) (v := ?_) rfl (by kernel_rfl) (by kernel_rfl) (by kernel_rfl) (by kernel_rfl) (fun _ _ _ h => by first | exact h | cases h.1) (by rfl) (by kernel_rfl) (Or.inl ⟨by rfl, ?_⟩) (by first | exact HS.out | exact hS | exact hdx | exact ⟨hdx, hkx⟩) ?_
            rotate_left
            · (intro w' hw'; (try dsimp only at hw'); skip; go_simp; first | done | with_reducible rfl)
            (try simp only [List.getElem_toArray, List.getElem_cons_zero, List.getElem_cons_succ, Act.put, List.setIfInBounds_toArray, List.set_cons_zero, List.set_cons_succ])
            refine wpAnyD_take (i := 7) (v := ?_) rfl (by kernel_rfl) (by kernel_rfl) (by kernel_rfl) (by kernel_rfl) (fun _ _ _ h => by first | exact h | cases h.1) (by rfl) (by kernel_rfl) (Or.inl ⟨by rfl, ?_⟩) (by first | exact HS.out | exact hS | exact hdx | exact ⟨hdx, hkx⟩) ?_
            rotate_left
            · (intro w' hw'; (try dsimp only at hw'); skip; go_simp; first | done | with_reducible rfl)
            (try simp only [List.getElem_toArray, List.getElem_cons_zero, List.getElem_cons_succ, Act.put, List.setIfInBounds_toArray, List.set_cons_zero, List.set_cons_succ])
            refine wpAnyD_all (rs := [8]) (by kernel_rfl) (by simp) (AllD.cons rfl (by rfl) (fun K hK => ?_) AllD.nil)
            go_simp
            have hB := Below.alloc (Below.refl wx.heap.size wx) (Nat.le_refl _) (.cells #[.bool false, .bool false, .slice none 0 0, .slice none 0 0, .slice none 0 0] 25)
            have hin := box_new wx #[.bool false, .bool false, .slice none 0 0, .slice none 0 0, .slice none 0 0] 25
            (try have pe := pe.keepS hB (by intro b hb; first | omega | (simp only [false_or] at hb; omega)))
            have HX := Lib.hid (below_then HX.out hB)
            have hz := hB.size
            have hix := hin
            have hgl := (Array.getElem?_eq_some_iff.1 hix).1
            clear hB hin
            generalize hggi : wx.heap.size = gi at *
            generalize wx.alloc (.cells #[.bool false, .bool false, .slice none 0 0, .slice none 0 0, .slice none 0 0] 25) = wx at *
            refine hK.out _ _ (fun _ => trivial) ?_
            clear hK K
            (try simp only [List.getElem_toArray, List.getElem_cons_zero, List.getElem_cons_succ, Act.put, List.setIfInBounds_toArray, List.set_cons_zero, List.set_cons_succ])
            refine wpAnyD_all (rs := [9]) (by kernel_rfl) (by simp) (AllD.cons rfl (by rfl) (fun K hK => ?_) AllD.nil)
            have hr0 := (boxed hix) 0 _ rfl; have hr1 := (boxed hix) 1 _ rfl; have hr2 := (boxed hix) 2 _ rfl; have hr3 := (boxed hix) 3 _ rfl; have hr4 := (boxed hix) 4 _ rfl
            have hf0 := boxed_frozen hix 0; have hf1 := boxed_frozen hix 1; have hf2 := boxed_frozen hix 2; have hf3 := boxed_frozen hix 3; have hf4 := boxed_frozen hix 4
            go_simp
            have hgr := put5_grown wx gi 0 (.bool (signedT (atomT [120]) (zeroL 32) (zeroL 64)).list) (.bool (signedT (atomT [120]) (zeroL 32) (zeroL 64)).hinted) (.slice eA1 en1 ec1) (.slice eA2 en2 ec2) (.slice eA3 en3 ec3)
            have hnw := put5_box hix 0 (.bool (signedT (atomT [120]) (zeroL 32) (zeroL 64)).list) (.bool (signedT (atomT [120]) (zeroL 32) (zeroL 64)).hinted) (.slice eA1 en1 ec1) (.slice eA2 en2 ec2) (.slice eA3 en3 ec3)
            clear hr0 hr1 hr2 hr3 hr4 hf0 hf1 hf2 hf3 hf4 hix
            (try have pe := pe.farS hgr (by intro b hb; first | omega | (simp only [false_or] at hb; omega)))
            (try have hix := box_grown hix hgr (by simp <;> omega))
            have HX := Lib.hid (HX.out.grown hgr (by omega) fun k hk => by injection hk; omega)
            have hz := hgr.size
            have hix := hnw
            clear hgr hnw
            refine hK.out _ _ (fun _ => trivial) ?_
            clear hK K
            (try simp only [List.getElem_toArray, List.getElem_cons_zero, List.getElem_cons_succ, Act.put, List.setIfInBounds_toArray, List.set_cons_zero, List.set_cons_succ])
            generalize hpq : put5 wx gi 0 (.bool (signedT (atomT [120]) (zeroL 32) (zeroL 64)).list) (.bool (signedT (atomT [120]) (zeroL 32) (zeroL 64)).hinted) (.slice eA1 en1 ec1) (.slice eA2 en2 ec2) (.slice eA3 en3 ec3) = w8 at *
            unfold put5 at hpq
            rw [hpq]
            clear hpq
            refine wpAnyD_take (i := 10) (v := ?_) rfl (by kernel_rfl) (by kernel_rfl) (by kernel_rfl) (by kernel_rfl) (fun _ _ _ h => by first | exact h | cases h.1) (by rfl) (by kernel_rfl) (Or.inl ⟨by rfl, ?_⟩) (by first | exact HS.out | exact hS | exact hdx | exact ⟨hdx, hkx⟩) ?_
            rotate_left
            · (intro w' hw'; (try dsimp only at hw'); skip; go_simp; first | done | with_reducible rfl)
            (try simp only [List.getElem_toArray, List.getElem_cons_zero, List.getElem_cons_succ, Act.put, List.setIfInBounds_toArray, List.set_cons_zero, List.set_cons_succ])
            refine wpAnyD_done (by kernel_rfl) ?_ _
            go_wp2_with fail
            go_meet
            exact ⟨gi, _, _, _, _, _, _, _, _, _, rfl, rfl, pe.more (by intro b hb; omega), hix, HX.out⟩
          · go_simp
            have hB := Below.alloc (Below.refl wx.heap.size wx) (Nat.le_refl _) (.cells #[.bool false, .bool false, .slice none 0 0, .slice none 0 0, .slice none 0 0] 25)
            have hin := box_new wx #[.bool false, .bool false, .slice none 0 0, .slice none 0 0, .slice none 0 0] 25
            (try have pa := pa.keepS hB (by intro b hb; first | omega | (simp only [false_or] at hb; omega)))
            (try have HE := Lib.hid (slKeepS HE.out hB (by intro b hb; first | omega | (simp only [false_or] at hb; omega))))
            (try have HL := Lib.hid (slKeepS HL.out hB (by intro b hb; first | omega | (simp only [false_or] at hb; omega))))
            have HX := Lib.hid (below_then HX.out hB)
            have hz := hB.size
            have hix := hin
            have hgl := (Array.getElem?_eq_some_iff.1 hix).1
            clear hB hin
            generalize hggi : wx.heap.size = gi at *
            generalize wx.alloc (.cells #[.bool false, .bool false, .slice none 0 0, .slice none 0 0, .slice none 0 0] 25) = wx at *
            refine hK.out _ _ (fun _ => trivial) ?_
            clear hK K
            (try simp only [List.getElem_toArray, List.getElem_cons_zero, List.getElem_cons_succ, Act.put, List.setIfInBounds_toArray, List.set_cons_zero, List.set_cons_succ])
            refine wpAnyD_all (rs := [4]) (by kernel_rfl) (by simp) (AllD.cons rfl (by rfl) (fun K hK => ?_) AllD.nil)
            go_simp
            refine Calls.mono (sput_c (atomT [120]) (zeroL 32) (zeroL 64) _ _ (Nat.le_refl _) _ _ _ _ _ _ _ _ _ _ _ _ _ _ _ (pa.more (by intro b hb; omega)) (Rep.sl_more HE.out (by intro b hb; omega)) (Rep.sl_more HL.out (by intro b hb; omega)) (HTT.out.next HX.out) (by rw [atomT_wt]; decide) (by decide) (by decide)) ?_
            rintro e wx ⟨eA1, en1, ec1, eA2, en2, ec2, eA3, en3, ec3, rfl, hq, hB⟩
            (try have pa := pa.keepS hB (by intro b hb; first | omega | (simp only [false_or] at hb; omega)))
            (try have HE := Lib.hid (slKeepS HE.out hB (by intro b hb; first | omega | (simp only [false_or] at hb; omega))))
            (try have HL := Lib.hid (slKeepS HL.out hB (by intro b hb; first | omega | (simp only [false_or] at hb; omega))))
            (try have hix := box_below hix hB (Array.getElem?_eq_some_iff.1 hix).1)
            have HX := Lib.hid (below_then HX.out hB)
            have hz := hB.size
            have pe := hq
            clear hq hB
            (try simp only [treeV])
            (rw [HO.out.1, HO.out.2] at *)
            refine hK.out _ _ (fun _ => trivial) ?_
            clear hK K
            (try simp only [List.getElem_toArray, List.getElem_cons_zero, List.getElem_cons_succ, Act.put, List.setIfInBounds_toArray, List.set_cons_zero, List.set_cons_succ])
            refine wpAnyD_take (i := 5) (v := ?_) rfl (by kernel_rfl) (by kernel_rfl) (by kernel_rfl) (by kernel_rfl) (fun _ _ _ h => by first | exact h | cases h.1) (by rfl) (by kernel_rfl) (Or.inl ⟨by rfl, ?_⟩) (by first | exact HS.out | exact hS | exact hdx | exact ⟨hdx, hkx⟩) ?_
            rotate_left
            · (intro w' hw'; (try dsimp only at hw'); skip; go_simp; first | done | with_reducible rfl)
            (try simp only [List.getElem_toArray, List.getElem_cons_zero, List.getElem_cons_succ, Act.put, List.setIfInBounds_toArray, List.set_cons_zero, List.set_cons_succ])
            refine wpAnyD_take (i := 6) (v := ?_) rfl (by kernel_rfl) (by kernel_rfl) (by kernel_rfl) (by kernel_rfl) (fun _ _ _ h => by first | exact h | cases h.1) (by rfl) (by kernel_rfl) (Or.inl ⟨by rfl, ?_⟩) (by first | exact HS.out | exact hS | exact hdx | exact ⟨hdx, hkx⟩) ?_
            rotate_left
            · (intro w' hw'; (try dsimp only at hw'); skip; go_simp; first | done | with_reducible rfl)
            (try simp only [List.getElem_toArray, List.getElem_cons_zero, List.getElem_cons_succ, Act.put, List.setIfInBounds_toArray, List.set_cons_zero, List.set_cons_succ])
            refine wpAnyD_take (i := 7) (v := ?_) rfl (by kernel_rfl) (by kernel_rfl) (by kernel_rfl) (by kernel_rfl) (fun _ _ _ h => by first | exact h | cases h.1) (by rfl) (by kernel_rfl) (Or.inl ⟨by rfl, ?_⟩) (by first | exact HS.out | exact hS | exact hdx | exact ⟨hdx, hkx⟩) ?_
            rotate_left
            · (intro w' hw'; (try dsimp only at hw'); skip; go_simp; first | done | with_reducible rfl)
            (try simp only [List.getElem_toArray, List.getElem_cons_zero, List.getElem_cons_succ, Act.put, List.setIfInBounds_toArray, List.set_cons_zero, List.set_cons_succ])
            refine wpAnyD_all (rs := [9]) (by kernel_rfl) (by simp) (AllD.cons rfl (by rfl) (fun K hK => ?_) AllD.nil)
            have hr0 := (boxed hix) 0 _ rfl; have hr1 := (boxed hix) 1 _ rfl; have hr2 := (boxed hix) 2 _ rfl; have hr3 := (boxed hix) 3 _ rfl; have hr4 := (boxed hix) 4 _ rfl
            have hf0 := boxed_frozen hix 0; have hf1 := boxed_frozen hix 1; have hf2 := boxed_frozen hix 2; have hf3 := boxed_frozen hix 3; have hf4 := boxed_frozen hix 4
            go_simp
            have hgr := put5_grown wx gi 0 (.bool (signedT (atomT [120]) (zeroL 32) (zeroL 64)).list) (.bool (signedT (atomT [120]) (zeroL 32) (zeroL 64)).hinted) (.slice eA1 en1 ec1) (.slice eA2 en2 ec2) (.slice eA3 en3 ec3)
            have hnw := put5_box hix 0 (.bool (signedT (atomT [120]) (zeroL 32) (zeroL 64)).list) (.bool (signedT (atomT [120]) (zeroL 32) (zeroL 64)).hinted) (.slice eA1 en1 ec1) (.slice eA2 en2 ec2) (.slice eA3 en3 ec3)
            clear hr0 hr1 hr2 hr3 hr4 hf0 hf1 hf2 hf3 hf4 hix
            (try have pe := pe.farS hgr (by intro b hb; first | omega | (simp only [false_or] at hb; omega)))
            (try have hix := box_grown hix hgr (by simp <;> omega))
            have HX := Lib.hid (HX.out.grown hgr (by omega) fun k hk => by injection hk; omega)
            have hz := hgr.size
            have hix := hnw
            clear hgr hnw
            refine hK.out _ _ (fun _ => trivial) ?_
            clear hK K
            (try simp only [List.getElem_toArray, List.getElem_cons_zero, List.getElem_cons_succ, Act.put, List.setIfInBounds_toArray, List.set_cons_zero, List.set_cons_succ])
            generalize hpq : put5 wx gi 0 (.bool (signedT (atomT [120]) (zeroL 32) (zeroL 64)).list) (.bool (signedT (atomT [120]) (zeroL 32) (zeroL 64)).hinted) (.slice eA1 en1 ec1) (.slice eA2 en2 ec2) (.slice eA3 en3 ec3) = w8 at *
            unfold put5 at hpq
            rw [hpq]
            clear hpq
            refine wpAnyD_take (i := 10) (v := ?_) rfl (by kernel_rfl) (by kernel_rfl) (by kernel_rfl) (by kernel_rfl) (fun _ _ _ h => by first | exact h | cases h.1) (by rfl) (by kernel_rfl) (Or.inl ⟨by rfl, ?_⟩) (by first | exact HS.out | exact hS | exact hdx | exact ⟨hdx, hkx⟩) ?_
            rotate_left
            · (intro w' hw'; (try dsimp only at hw'); skip; go_simp; first | done | with_reducible rfl)
            (try simp only [List.getElem_toArray, List.getElem_cons_zero, List.getElem_cons_succ, Act.put, List.setIfInBounds_toArray, List.set_cons_zero, List.set_cons_succ])
            refine wpAnyD_done (by kernel_rfl) ?_ _
            go_wp2_with fail
            go_meet
            exact ⟨gi, _, _, _, _, _, _, _, _, _, rfl, rfl, pe.more (by intro b hb; omega), hix, HX.out⟩
        · go_simp
          have hB := Below.alloc (Below.refl wx.heap.size wx) (Nat.le_refl _) (.cells #[.bool false, .bool false, .slice none 0 0, .slice none 0 0, .slice none 0 0] 25)
          have hin := box_new wx #[.bool false, .bool false, .slice none 0 0, .slice none 0 0, .slice none 0 0] 25
          (try have pa := pa.keepS hB (by intro b hb; first | omega | (simp only [false_or] at hb; omega)))
          (try have HL := Lib.hid (slKeepS HL.out hB (by intro b hb; first | omega | (simp only [false_or] at hb; omega))))
          have HX := Lib.hid (below_then HX.out hB)
          have hz := hB.size
          have hix := hin
          have hgl := (Array.getElem?_eq_some_iff.1 hix).1
          clear hB hin
          generalize hggi : wx.heap.size = gi at *
          generalize wx.alloc (.cells #[.bool false, .bool false, .slice none 0 0, .slice none 0 0, .slice none 0 0] 25) = wx at *
          refine hK.out _ _ (fun _ => trivial) ?_
          clear hK K
          (try simp only [List.getElem_toArray, List.getElem_cons_zero, List.getElem_cons_succ, Act.put, List.setIfInBounds_toArray, List.set_cons_zero, List.set_cons_succ])
          refine wpAnyD_all (rs := [1]) (by kernel_rfl) (by simp) (AllD.cons rfl (by rfl) (fun K hK => ?_) AllD.nil)
          obtain ⟨w1, hrun0, hsl0, hB⟩ := make_u8 TB wx 32 (by decide)
          have hrun : Sem.run _ (Instr.makeSlice 22 (Value.int IntKind.i64 32) (Value.int IntKind.i64 32)) wx = _ := hrun0
          go_simp
          (try have pa := pa.keepS hB (by intro b hb; first | omega | (simp only [false_or] at hb; omega)))
          (try have HL := Lib.hid (slKeepS HL.out hB (by intro b hb; first | omega | (simp only [false_or] at hb; omega))))
          (try have hix := box_below hix hB (Array.getElem?_eq_some_iff.1 hix).1)
          have HX := Lib.hid (below_then HX.out hB)
          have hz := hB.size
          have HE := Lib.hid hsl0
          clear hB hrun hrun0 hsl0
          generalize hgg1 : wx.heap.size = g1 at *
          generalize w1 = wx at *
          refine hK.out _ _ (fun _ => trivial) ?_
          clear hK K
          (try simp only [List.getElem_toArray, List.getElem_cons_zero, List.getElem_cons_succ, Act.put, List.setIfInBounds_toArray, List.set_cons_zero, List.set_cons_succ])
          refine wpAnyD_take (i := 3) (v := ?_) rfl (by kernel_rfl) (by kernel_rfl) (by kernel_rfl) (by kernel_rfl) (fun _ _ _ h => by first | exact h | cases h.1) (by rfl) (by kernel_rfl) (Or.inl ⟨by rfl, ?_⟩) (by first | exact HS.out | exact hS | exact hdx | exact ⟨hdx, hkx⟩) ?_
          rotate_left
          · (intro w' hw'; (try dsimp only at hw'); skip; go_simp; first | done | with_reducible rfl)
          (try simp only [List.getElem_toArray, List.getElem_cons_zero, List.getElem_cons_succ, Act.put, List.setIfInBounds_toArray, List.set_cons_zero, List.set_cons_succ])
          refine wpAnyD_all (rs := [4]) (by kernel_rfl) (by simp) (AllD.cons rfl (by rfl) (fun K hK => ?_) AllD.nil)
          go_simp
          refine Calls.mono (sput_c (atomT [120]) (zeroL 32) (zeroL 64) _ _ (Nat.le_refl _) _ _ _ _ _ _ _ _ _ _ _ _ _ _ _ (pa.more (by intro b hb; omega)) (Rep.sl_more HE.out (by intro b hb; omega)) (Rep.sl_more HL.out (by intro b hb; omega)) (HTT.out.next HX.out) (by rw [atomT_wt]; decide) (by decide) (by decide)) ?_
          rintro e wx ⟨eA1, en1, ec1, eA2, en2, ec2, eA3, en3, ec3, rfl, hq, hB⟩
          (try have pa := pa.keepS hB (by intro b hb; first | omega | (simp only [false_or] at hb; omega)))
          (try have HE := Lib.hid (slKeepS HE.out hB (by intro b hb; first | omega | (simp only [false_or] at hb; omega))))
          (try have HL := Lib.hid (slKeepS HL.out hB (by intro b hb; first | omega | (simp only [false_or] at hb; omega))))
          (try have hix := box_below hix hB (Array.getElem?_eq_some_iff.1 hix).1)
          have HX := Lib.hid (below_then HX.out hB)
          have hz := hB.size
          have pe := hq
          clear hq hB
          (try simp only [treeV])
          (rw [HO.out.1, HO.out.2] at *)
          refine hK.out _ _ (fun _ => trivial) ?_
          clear hK K
          (try simp only [List.getElem_toArray, List.getElem_cons_zero, List.getElem_cons_succ, Act.put, List.setIfInBounds_toArray, List.set_cons_zero, List.set_cons_succ])
          refine wpAnyD_take (i := 5) (v := ?_) rfl (by kernel_rfl) (by kernel_rfl) (by kernel_rfl) (by kernel_rfl) (fun _ _ _ h => by first | exact h | cases h.1) (by rfl) (by kernel_rfl) (Or.inl ⟨by rfl, ?_⟩) (by first | exact HS.out | exact hS | exact hdx | exact ⟨hdx, hkx⟩) ?_
          rotate_left
          · (intro w' hw'; (try dsimp only at hw'); skip; go_simp; first | done | with_reducible rfl)
          (try simp only [List.getElem_toArray, List.getElem_cons_zero, List.getElem_cons_succ, Act.put, List.setIfInBounds_toArray, List.set_cons_zero, List.set_cons_succ])
          refine wpAnyD_take (i := 6) (v := ?_) rfl (by kernel_rfl) (by kernel_rfl) (by kernel_rfl) (by kernel_rfl) (fun _ _ _ h => by first | exact h | cases h.1) (by rfl) (by kernel_rfl) (Or.inl ⟨by rfl, ?_⟩) (by first | exact HS.out | exact hS | exact hdx | exact ⟨hdx, hkx⟩) ?_
          rotate_left
          · (intro w' hw'; (try dsimp only at hw'); skip; go_simp; first | done | with_reducible rfl)
          (try simp only [List.getElem_toArray, List.getElem_cons_zero, List.getElem_cons_succ, Act.put, List.setIfInBounds_toArray, List.set_cons_zero, List.set_cons_succ])
          refine wpAnyD_take (i := 7) (v := ?_) rfl (by kernel_rfl) (by kernel_rfl) (by kernel_rfl) (by kernel_rfl) (fun _ _ _ h => by first | exact h | cases h.1) (by rfl) (by kernel_rfl) (Or.inl ⟨by rfl, ?_⟩) (by first | exact HS.out | exact hS | exact hdx | exact ⟨hdx, hkx⟩) ?_
          rotate_left
          · (intro w' hw'; (try dsimp only at hw'); skip; go_simp; first | done | with_reducible rfl)
          (try simp only [List.getElem_toArray, List.getElem_cons_zero, List.getElem_cons_succ, Act.put, List.setIfInBounds_toArray, List.set_cons_zero, List.set_cons_succ])
          refine wpAnyD_all (rs := [9]) (by kernel_rfl) (by simp) (AllD.cons rfl (by rfl) (fun K hK => ?_) AllD.nil)
          have hr0 := (boxed hix) 0 _ rfl; have hr1 := (boxed hix) 1 _ rfl; have hr2 := (boxed hix) 2 _ rfl; have hr3 := (boxed hix) 3 _ rfl; have hr4 := (boxed hix) 4 _ rfl
          have hf0 := boxed_frozen hix 0; have hf1 := boxed_frozen hix 1; have hf2 := boxed_frozen hix 2; have hf3 := boxed_frozen hix 3; have hf4 := boxed_frozen hix 4
          go_simp
          have hgr := put5_grown wx gi 0 (.bool (signedT (atomT [120]) (zeroL 32) (zeroL 64)).list) (.bool (signedT (atomT [120]) (zeroL 32) (zeroL 64)).hinted) (.slice eA1 en1 ec1) (.slice eA2 en2 ec2) (.slice eA3 en3 ec3)
          have hnw := put5_box hix 0 (.bool (signedT (atomT [120]) (zeroL 32) (zeroL 64)).list) (.bool (signedT (atomT [120]) (zeroL 32) (zeroL 64)).hinted) (.slice eA1 en1 ec1) (.slice eA2 en2 ec2) (.slice eA3 en3 ec3)
          clear hr0 hr1 hr2 hr3 hr4 hf0 hf1 hf2 hf3 hf4 hix
          (try have pe := pe.farS hgr (by intro b hb; first | omega | (simp only [false_or] at hb; omega)))
          (try have hix := box_grown hix hgr (by simp <;> omega))
          have HX := Lib.hid (HX.out.grown hgr (by omega) fun k hk => by injection hk; omega)
          have hz := hgr.size
          have hix := hnw
          clear hgr hnw
          refine hK.out _ _ (fun _ => trivial) ?_
          clear hK K
          (try simp only [List.getElem_toArray, List.getElem_cons_zero, List.getElem_cons_succ, Act.put, List.setIfInBounds_toArray, List.set_cons_zero, List.set_cons_succ])
          generalize hpq : put5 wx gi 0 (.bool (signedT (atomT [120]) (zeroL 32) (zeroL 64)).list) (.bool (signedT (atomT [120]) (zeroL 32) (zeroL 64)).hinted) (.slice eA1 en1 ec1) (.slice eA2 en2 ec2) (.slice eA3 en3 ec3) = w8 at *
          unfold put5 at hpq
          rw [hpq]
          clear hpq
          refine wpAnyD_take (i := 10) (v := ?_) rfl (by kernel_rfl) (by kernel_rfl) (by kernel_rfl) (by kernel_rfl) (fun _ _ _ h => by first | exact h | cases h.1) (by rfl) (by kernel_rfl) (Or.inl ⟨by rfl, ?_⟩) (by first | exact HS.out | exact hS | exact hdx | exact ⟨hdx, hkx⟩) ?_
          rotate_left
          · (intro w' hw'; (try dsimp only at hw'); skip; go_simp; first | done | with_reducible rfl)
          (try simp only [List.getElem_toArray, List.getElem_cons_zero, List.getElem_cons_succ, Act.put, List.setIfInBounds_toArray, List.set_cons_zero, List.set_cons_succ])
          refine wpAnyD_done (by kernel_rfl) ?_ _
          go_wp2_with fail
          go_meet
          exact ⟨gi, _, _, _, _, _, _, _, _, _, rfl, rfl, pe.more (by intro b hb; omega), hix, HX.out⟩
      · obtain ⟨w1, hrun0, hsl0, hB⟩ := make_u8 TB wx 32 (by decide)
        have hrun : Sem.run _ (Instr.makeSlice 22 (Value.int IntKind.i64 32) (Value.int IntKind.i64 32)) wx = _ := hrun0
        go_simp
        (try have HL := Lib.hid (slKeepS HL.out hB (by intro b hb; first | omega | (simp only [false_or] at hb; omega))))
        have HX := Lib.hid (below_then HX.out hB)
        have hz := hB.size
        have HE := Lib.hid hsl0
        clear hB hrun hrun0 hsl0
        generalize hgg1 : wx.heap.size = g1 at *
        generalize w1 = wx at *
        refine hK.out _ _ (fun _ => trivial) ?_
        clear hK K
        (try simp only [List.getElem_toArray, List.getElem_cons_zero, List.getElem_cons_succ, Act.put, List.setIfInBounds_toArray, List.set_cons_zero, List.set_cons_succ])
        refine wpAnyD_all (rs := [0, 8]) (by kernel_rfl) (by simp) (AllD.cons rfl (by rfl) (fun K hK => ?_) (AllD.cons rfl (by rfl) (fun K hK => ?_) AllD.nil))
        · go_simp
          refine Calls.mono (atomref_c [120] _ _ (Nat.le_refl _) (by decide)) ?_
          rintro e wx ⟨aA1, an1, ac1, aA2, an2, ac2, aA3, an3, ac3, rfl, hq, hB⟩
          (try have HE := Lib.hid (slKeepS HE.out hB (by intro b hb; first | omega | (simp only [false_or] at hb; omega))))
          (try have HL := Lib.hid (slKeepS HL.out hB (by intro b hb; first | omega | (simp only [false_or] at hb; omega))))
          have HX := Lib.hid (below_then HX.out hB)
          have hz := hB.size
          have pa := hq
          clear hq hB
          (try simp only [treeV])
          refine hK.out _ _ (fun _ => trivial) ?_
          clear hK K
          (try simp only [List.getElem_toArray, List.getElem_cons_zero, List.getElem_cons_succ, Act.put, List.setIfInBounds_toArray, List.set_cons_zero, List.set_cons_succ])
          refine wpAnyD_take (i := 3) (v := ?_) rfl (by kernel_rfl) (by kernel_rfl) (by kernel_rfl) (by kernel_rfl) (fun _ _ _ h => by first | exact h | cases h.1) (by rfl) (by kernel_rfl) (Or.inl ⟨by rfl, ?_⟩) (by first | exact HS.out | exact hS | exact hdx | exact ⟨hdx, hkx⟩) ?_
          rotate_left
          · (intro w' hw'; (try dsimp only at hw'); skip; go_simp; first | done | with_reducible rfl)
          (try simp only [List.getElem_toArray, List.getElem_cons_zero, List.getElem_cons_succ, Act.put, List.setIfInBounds_toArray, List.set_cons_zero, List.set_cons_succ])
          refine wpAnyD_all (rs := [4, 8]) (by kernel_rfl) (by simp) (AllD.cons rfl (by rfl) (fun K hK => ?_) (AllD.cons rfl (by rfl) (fun K hK => ?_) AllD.nil))
          · go_simp
            refine Calls.mono (sput_c (atomT [120]) (zeroL 32) (zeroL 64) _ _ (Nat.le_refl _) _ _ _ _ _ _ _ _ _ _ _ _ _ _ _ (pa.more (by intro b hb; omega)) (Rep.sl_more HE.out (by intro b hb; omega)) (Rep.sl_more HL.out (by intro b hb; omega)) (HTT.out.next HX.out) (by rw [atomT_wt]; decide) (by decide) (by decide)) ?_
            rintro e wx ⟨eA1, en1, ec1, eA2, en2, ec2, eA3, en3, ec3, rfl, hq, hB⟩
            (try have pa := pa.keepS hB (by intro b hb; first | omega | (simp only [false_or] at hb; omega)))
            (try have HE := Lib.hid (slKeepS HE.out hB (by intro b hb; first | omega | (simp only [false_or] at hb; omega))))
            (try have HL := Lib.hid (slKeepS HL.out hB (by intro b hb; first | omega | (simp only [false_or] at hb; omega))))
            have HX := Lib.hid (below_then HX.out hB)
            have hz := hB.size
            have pe := hq
            clear hq hB
            (try simp only [treeV])
            (rw [HO.out.1, HO.out.2] at *)
            refine hK.out _ _ (fun _ => trivial) ?_
            clear hK K
            (try simp only [List.getElem_toArray, List.getElem_cons_zero, List.getElem_cons_succ, Act.put, List.setIfInBounds_toArray, List.set_cons_zero, List.set_cons_succ])
            refine wpAnyD_take (i := 5) (v := ?_) rfl (by kernel_rfl) (by kernel_rfl) (by kernel_rfl) (by kernel_rfl) (fun _ _ _ h => by first | exact h | cases h.1) (by rfl) (by kernel_rfl) (Or.inl ⟨by rfl, ?_⟩) (by first | exact HS.out | exact hS | exact hdx | exact ⟨hdx, hkx⟩) ?_
            rotate_left
            · (intro w' hw'; (try dsimp only at hw'); skip; go_simp; first | done | with_reducible rfl)
            (try simp only [List.getElem_toArray, List.getElem_cons_zero, List.getElem_cons_succ, Act.put, List.setIfInBounds_toArray, List.set_cons_zero, List.set_cons_succ])
            refine wpAnyD_take (i := 6) (v := ?_) rfl (by kernel_rfl) (by kernel_rfl) (by kernel_rfl) (by kernel_rfl) (fun _ _ _ h => by first | exact h | cases h.1) (by rfl) (by kernel_rfl) (Or.inl ⟨by rfl, ?_⟩) (by first | exact HS.out | exact hS | exact hdx | exact ⟨hdx, hkx⟩) ?_
            rotate_left
            · (intro w' hw'; (try dsimp only at hw'); skip; go_simp; first | done | with_reducible rfl)
            (try simp only [List.getElem_toArray, List.getElem_cons_zero, List.getElem_cons_succ, Act.put, List.setIfInBounds_toArray, List.set_cons_zero, List.set_cons_succ])
            refine wpAnyD_take (i := 7) (v := ?_) rfl (by kernel_rfl) (by kernel_rfl) (by kernel_rfl) (by kernel_rfl) (fun _ _ _ h => by first | exact h | cases h.1) (by rfl) (by kernel_rfl) (Or.inl ⟨by rfl, ?_⟩) (by first | exact HS.out | exact hS | exact hdx | exact ⟨hdx, hkx⟩) ?_
            rotate_left
            · (intro w' hw'; (try dsimp only at hw'); skip; go_simp; first | done | with_reducible rfl)
            (try simp only [List.getElem_toArray, List.getElem_cons_zero, List.getElem_cons_succ, Act.put, List.setIfInBounds_toArray, List.set_cons_zero, List.set_cons_succ])
            refine wpAnyD_all (rs := [8]) (by kernel_rfl) (by simp) (AllD.cons rfl (by rfl) (fun K hK => ?_) AllD.nil)
            go_simp
            have hB := Below.alloc (Below.refl wx.heap.size wx) (Nat.le_refl _) (.cells #[.bool false, .bool false, .slice none 0 0, .slice none 0 0, .slice none 0 0] 25)
            have hin := box_new wx #[.bool false, .bool false, .slice none 0 0, .slice none 0 0, .slice none 0 0] 25
            (try have pe := pe.keepS hB (by intro b hb; first | omega | (simp only [false_or] at hb; omega)))
            have HX := Lib.hid (below_then HX.out hB)
            have hz := hB.size
            have hix := hin
            have hgl := (Array.getElem?_eq_some_iff.1 hix).1
            clear hB hin
            generalize hggi : wx.heap.size = gi at *
            generalize wx.alloc (.cells #[.bool false, .bool false, .slice none 0 0, .slice none 0 0, .slice none 0 0] 25) = wx at *
            refine hK.out _ _ (fun _ => trivial) ?_
            clear hK K
            (try simp only [List.getElem_toArray, List.getElem_cons_zero, List.getElem_cons_succ, Act.put, List.setIfInBounds_toArray, List.set_cons_zero, List.set_cons_succ])
            refine wpAnyD_all (rs := [9]) (by kernel_rfl) (by simp) (AllD.cons rfl (by rfl) (fun K hK => ?_) AllD.nil)
            have hr0 := (boxed hix) 0 _ rfl; have hr1 := (boxed hix) 1 _ rfl; have hr2 := (boxed hix) 2 _ rfl; have hr3 := (boxed hix) 3 _ rfl; have hr4 := (boxed hix) 4 _ rfl
            have hf0 := boxed_frozen hix 0; have hf1 := boxed_frozen hix 1; have hf2 := boxed_frozen hix 2; have hf3 := boxed_frozen hix 3; have hf4 := boxed_frozen hix 4
            go_simp
            have hgr := put5_grown wx gi 0 (.bool (signedT (atomT [120]) (zeroL 32) (zeroL 64)).list) (.bool (signedT (atomT [120]) (zeroL 32) (zeroL 64)).hinted) (.slice eA1 en1 ec1) (.slice eA2 en2 ec2) (.slice eA3 en3 ec3)
            have hnw := put5_box hix 0 (.bool (signedT (atomT [120]) (zeroL 32) (zeroL 64)).list) (.bool (signedT (atomT [120]) (zeroL 32) (zeroL 64)).hinted) (.slice eA1 en1 ec1) (.slice eA2 en2 ec2) (.slice eA3 en3 ec3)
            clear hr0 hr1 hr2 hr3 hr4 hf0 hf1 hf2 hf3 hf4 hix
            (try have pe := pe.farS hgr (by intro b hb; first | omega | (simp only [false_or] at hb; omega)))
            (try have hix := box_grown hix hgr (by simp <;> omega))
            have HX := Lib.hid (HX.out.grown hgr (by omega) fun k hk => by injection hk; omega)
            have hz := hgr.size
            have hix := hnw
            clear hgr hnw
            refine hK.out _ _ (fun _ => trivial) ?_
            clear hK K
            (try simp only [List.getElem_toArray, List.getElem_cons_zero, List.getElem_cons_succ, Act.put, List.setIfInBounds_toArray, List.set_cons_zero, List.set_cons_succ])
            generalize hpq : put5 wx gi 0 (.bool (signedT (atomT [120]) (zeroL 32) (zeroL 64)).list) (.bool (signedT (atomT [120]) (zeroL 32) (zeroL 64)).hinted) (.slice eA1 en1 ec1) (.slice eA2 en2 ec2) (.slice eA3 en3 ec3) = w8 at *
            unfold put5 at hpq
            rw [hpq]
            clear hpq
            refine wpAnyD_take (i := 10) (v := ?_) rfl (by kernel_rfl) (by kernel_rfl) (by kernel_rfl) (by kernel_rfl) (fun _ _ _ h => by first | exact h | cases h.1) (by rfl) (by kernel_rfl) (Or.inl ⟨by rfl, ?_⟩) (by first | exact HS.out | exact hS | exact hdx | exact ⟨hdx, hkx⟩) ?_
            rotate_left
            · (intro w' hw'; (try dsimp only at hw'); skip; go_simp; first | done | with_reducible rfl)
            (try simp only [List.getElem_toArray, List.getElem_cons_zero, List.getElem_cons_succ, Act.put, List.setIfInBounds_toArray, List.set_cons_zero, List.set_cons_succ])
            refine wpAnyD_done (by kernel_rfl) ?_ _
            go_wp2_with fail
            go_meet
            exact ⟨gi, _, _, _, _, _, _, _, _, _, rfl, rfl, pe.more (by intro b hb; omega), hix, HX.out⟩
          · go_simp
            have hB := Below.alloc (Below.refl wx.heap.size wx) (Nat.le_refl _) (.cells #[.bool false, .bool false, .slice none 0 0, .slice none 0 0, .slice none 0 0] 25)
            have hin := box_new wx #[.bool false, .bool false, .slice none 0 0, .slice none 0 0, .slice none 0 0] 25
            (try have pa := pa.keepS hB (by intro b hb; first | omega | (simp only [false_or] at hb; omega)))
            (try have HE := Lib.hid (slKeepS HE.out hB (by intro b hb; first | omega | (simp only [false_or] at hb; omega))))
            (try have HL := Lib.hid (slKeepS HL.out hB (by intro b hb; first | omega | (simp only [false_or] at hb; omega))))
            have HX := Lib.hid (below_then HX.out hB)
            have hz := hB.size
            have hix := hin
            have hgl := (Array.getElem?_eq_some_iff.1 hix).1
            clear hB hin
            generalize hggi : wx.heap.size = gi at *
            generalize wx.alloc (.cells #[.bool false, .bool false, .slice none 0 0, .slice none 0 0, .slice none 0 0] 25) = wx at *
            refine hK.out _ _ (fun _ => trivial) ?_
            clear hK K
            (try simp only [List.getElem_toArray, List.getElem_cons_zero, List.getElem_cons_succ, Act.put, List.setIfInBounds_toArray, List.set_cons_zero, List.set_cons_succ])
            refine wpAnyD_all (rs := [4]) (by kernel_rfl) (by simp) (AllD.cons rfl (by rfl) (fun K hK => ?_) AllD.nil)
            go_simp
            refine Calls.mono (sput_c (atomT [120]) (zeroL 32) (zeroL 64) _ _ (Nat.le_refl _) _ _ _ _ _ _ _ _ _ _ _ _ _ _ _ (pa.more (by intro b hb; omega)) (Rep.sl_more HE.out (by intro b hb; omega)) (Rep.sl_more HL.out (by intro b hb; omega)) (HTT.out.next HX.out) (by rw [atomT_wt]; decide) (by decide) (by decide)) ?_
            rintro e wx ⟨eA1, en1, ec1, eA2, en2, ec2, eA3, en3, ec3, rfl, hq, hB⟩
            (try have pa := pa.keepS hB (by intro b hb; first | omega | (simp only [false_or] at hb; omega)))
            (try have HE := Lib.hid (slKeepS HE.out hB (by intro b hb; first | omega | (simp only [false_or] at hb; omega))))
            (try have HL := Lib.hid (slKeepS HL.out hB (by intro b hb; first | omega | (simp only [false_or] at hb; omega))))
            (try have hix := box_below hix hB (Array.getElem?_eq_some_iff.1 hix).1)
            have HX := Lib.hid (below_then HX.out hB)
            have hz := hB.size
            have pe := hq
            clear hq hB
            (try simp only [treeV])
            (rw [HO.out.1, HO.out.2] at *)
            refine hK.out _ _ (fun _ => trivial) ?_
            clear hK K
            (try simp only [List.getElem_toArray, List.getElem_cons_zero, List.getElem_cons_succ, Act.put, List.setIfInBounds_toArray, List.set_cons_zero, List.set_cons_succ])
            refine wpAnyD_take (i := 5) (v := ?_) rfl (by kernel_rfl) (by kernel_rfl) (by kernel_rfl) (by kernel_rfl) (fun _ _ _ h => by first | exact h | cases h.1) (by rfl) (by kernel_rfl) (Or.inl ⟨by rfl, ?_⟩) (by first | exact HS.out | exact hS | exact hdx | exact ⟨hdx, hkx⟩) ?_
            rotate_left
            · (intro w' hw'; (try dsimp only at hw'); skip; go_simp; first | done | with_reducible rfl)
            (try simp only [List.getElem_toArray, List.getElem_cons_zero, List.getElem_cons_succ, Act.put, List.setIfInBounds_toArray, List.set_cons_zero, List.set_cons_succ])
            refine wpAnyD_take (i := 6) (v := ?_) rfl (by kernel_rfl) (by kernel_rfl) (by kernel_rfl) (by kernel_rfl) (fun _ _ _ h => by first | exact h | cases h.1) (by rfl) (by kernel_rfl) (Or.inl ⟨by rfl, ?_⟩) (by first | exact HS.out | exact hS | exact hdx | exact ⟨hdx, hkx⟩) ?_
            rotate_left
            · (intro w' hw'; (try dsimp only at hw'); skip; go_simp; first | done | with_reducible rfl)
            (try simp only [List.getElem_toArray, List.getElem_cons_zero, List.getElem_cons_succ, Act.put, List.setIfInBounds_toArray, List.set_cons_zero, List.set_cons_succ])
            refine wpAnyD_take (i := 7) (v := ?_) rfl (by kernel_rfl) (by kernel_rfl) (by kernel_rfl) (by kernel_rfl) (fun _ _ _ h => by first | exact h | cases h.1) (by rfl) (by kernel_rfl) (Or.inl ⟨by rfl, ?_⟩) (by first | exact HS.out | exact hS | exact hdx | exact ⟨hdx, hkx⟩) ?_
            rotate_left
            · (intro w' hw'; (try dsimp only at hw'); skip; go_simp; first | done | with_reducible rfl)
            (try simp only [List.getElem_toArray, List.getElem_cons_zero, List.getElem_cons_succ, Act.put, List.setIfInBounds_toArray, List.set_cons_zero, List.set_cons_succ])
            refine wpAnyD_all (rs := [9]) (by kernel_rfl) (by simp) (AllD.cons rfl (by rfl) (fun K hK => ?_) AllD.nil)
            have hr0 := (boxed hix) 0 _ rfl; have hr1 := (boxed hix) 1 _ rfl; have hr2 := (boxed hix) 2 _ rfl; have hr3 := (boxed hix) 3 _ rfl; have hr4 := (boxed hix) 4 _ rfl
            have hf0 := boxed_frozen hix 0; have hf1 := boxed_frozen hix 1; have hf2 := boxed_frozen hix 2; have hf3 := boxed_frozen hix 3; have hf4 := boxed_frozen hix 4
            go_simp
            have hgr := put5_grown wx gi 0 (.bool (signedT (atomT [120]) (zeroL 32) (zeroL 64)).list) (.bool (signedT (atomT [120]) (zeroL 32) (zeroL 64)).hinted) (.slice eA1 en1 ec1) (.slice eA2 en2 ec2) (.slice eA3 en3 ec3)
            have hnw := put5_box hix 0 (.bool (signedT (atomT [120]) (zeroL 32) (zeroL 64)).list) (.bool (signedT (atomT [120]) (zeroL 32) (zeroL 64)).hinted) (.slice eA1 en1 ec1) (.slice eA2 en2 ec2) (.slice eA3 en3 ec3)
            clear hr0 hr1 hr2 hr3 hr4 hf0 hf1 hf2 hf3 hf4 hix
            (try have pe := pe.farS hgr (by intro b hb; first | omega | (simp only [false_or] at hb; omega)))
            (try have hix := box_grown hix hgr (by simp <;> omega))
            have HX := Lib.hid (HX.out.grown hgr (by omega) fun k hk => by injection hk; omega)
            have hz := hgr.size
            have hix := hnw
            clear hgr hnw
            refine hK.out _ _ (fun _ => trivial) ?_
            clear hK K
            (try simp only [List.getElem_toArray, List.getElem_cons_zero, List.getElem_cons_succ, Act.put, List.setIfInBounds_toArray, List.set_cons_zero, List.set_cons_succ])
            generalize hpq : put5 wx gi 0 (.bool (signedT (atomT [120]) (zeroL 32) (zeroL 64)).list) (.bool (signedT (atomT [120]) (zeroL 32) (zeroL 64)).hinted) (.slice eA1 en1 ec1) (.slice eA2 en2 ec2) (.slice eA3 en3 ec3) = w8 at *
            unfold put5 at hpq
            rw [hpq]
            clear hpq
            refine wpAnyD_take (i := 10) (v := ?_) rfl (by kernel_rfl) (by kernel_rfl) (by kernel_rfl) (by kernel_rfl) (fun _ _ _ h => by first | exact h | cases h.1) (by rfl) (by kernel_rfl) (Or.inl ⟨by rfl, ?_⟩) (by first | exact HS.out | exact hS | exact hdx | exact ⟨hdx, hkx⟩) ?_
            rotate_left
            · (intro w' hw'; (try dsimp only at hw'); skip; go_simp; first | done | with_reducible rfl)
            (try simp only [List.getElem_toArray, List.getElem_cons_zero, List.getElem_cons_succ, Act.put, List.setIfInBounds_toArray, List.set_cons_zero, List.set_cons_succ])
            refine wpAnyD_done (by kernel_rfl) ?_ _
            go_wp2_with fail
            go_meet
            exact ⟨gi, _, _, _, _, _, _, _, _, _, rfl, rfl, pe.more (by intro b hb; omega), hix, HX.out⟩
        · go_simp
          have hB := Below.alloc (Below.refl wx.heap.size wx) (Nat.le_refl _) (.cells #[.bool false, .bool false, .slice none 0 0, .slice none 0 0, .slice none 0 0] 25)
          have hin := box_new wx #[.bool false, .bool false, .slice none 0 0, .slice none 0 0, .slice none 0 0] 25
          (try have HE := Lib.hid (slKeepS HE.out hB (by intro b hb; first | omega | (simp only [false_or] at hb; omega))))
          (try have HL := Lib.hid (slKeepS HL.out hB (by intro b hb; first | omega | (simp only [false_or] at hb; omega))))
          have HX := Lib.hid (below_then HX.out hB)
          have hz := hB.size
          have hix := hin
          have hgl := (Array.getElem?_eq_some_iff.1 hix).1
          clear hB hin
          generalize hggi : wx.heap.size = gi at *
          generalize wx.alloc (.cells #[.bool false, .bool false, .slice none 0 0, .slice none 0 0, .slice none 0 0] 25) = wx at *
          refine hK.out _ _ (fun _ => trivial) ?_
          clear hK K
          (try simp only [List.getElem_toArray, List.getElem_cons_zero, List.getElem_cons_succ, Act.put, List.setIfInBounds_toArray, List.set_cons_zero, List.set_cons_succ])
          refine wpAnyD_all (rs := [0]) (by kernel_rfl) (by simp) (AllD.cons rfl (by rfl) (fun K hK => ?_) AllD.nil)
          go_simp
          refine Calls.mono (atomref_c [120] _ _ (Nat.le_refl _) (by decide)) ?_
          rintro e wx ⟨aA1, an1, ac1, aA2, an2, ac2, aA3, an3, ac3, rfl, hq, hB⟩
          (try have HE := Lib.hid (slKeepS HE.out hB (by intro b hb; first | omega | (simp only [false_or] at hb; omega))))
          (try have HL := Lib.hid (slKeepS HL.out hB (by intro b hb; first | omega | (simp only [false_or] at hb; omega))))
          (try have hix := box_below hix hB (Array.getElem?_eq_some_iff.1 hix).1)
          have HX := Lib.hid (below_then HX.out hB)
          have hz := hB.size
          have pa := hq
          clear hq hB
          (try simp only [treeV])
          refine hK.out _ _ (fun _ => trivial) ?_
          clear hK K
          (try simp only [List.getElem_toArray, List.getElem_cons_zero, List.getElem_cons_succ, Act.put, List.setIfInBounds_toArray, List.set_cons_zero, List.set_cons_succ])
          refine wpAnyD_take (i := 3) (v := ?_) rfl (by kernel_rfl) (by kernel_rfl) (by kernel_rfl) (by kernel_rfl) (fun _ _ _ h => by first | exact h | cases h.1) (by rfl) (by kernel_rfl) (Or.inl ⟨by rfl, ?_⟩) (by first | exact HS.out | exact hS | exact hdx | exact ⟨hdx, hkx⟩) ?_
          rotate_left
          · (intro w' hw'; (try dsimp only at hw'); skip; go_simp; first | done | with_reducible rfl)
          (try simp only [List.getElem_toArray, List.getElem_cons_zero, List.getElem_cons_succ, Act.put, List.setIfInBounds_toArray, List.set_cons_zero, List.set_cons_succ])
          refine wpAnyD_all (rs := [4]) (by kernel_rfl) (by simp) (AllD.cons rfl (by rfl) (fun K hK => ?_) AllD.nil)
          go_simp
          refine Calls.mono (sput_c (atomT [120]) (zeroL 32) (zeroL 64) _ _ (Nat.le_refl _) _ _ _ _ _ _ _ _ _ _ _ _ _ _ _ (pa.more (by intro b hb; omega)) (Rep.sl_more HE.out (by intro b hb; omega)) (Rep.sl_more HL.out (by intro b hb; omega)) (HTT.out.next HX.out) (by rw [atomT_wt]; decide) (by decide) (by decide)) ?_
          rintro e wx ⟨eA1, en1, ec1, eA2, en2, ec2, eA3, en3, ec3, rfl, hq, hB⟩
          (try have pa := pa.keepS hB (by intro b hb; first | omega | (simp only [false_or] at hb; omega)))
          (try have HE := Lib.hid (slKeepS HE.out hB (by intro b hb; first | omega | (simp only [false_or] at hb; omega))))
          (try have HL := Lib.hid (slKeepS HL.out hB (by intro b hb; first | omega | (simp only [false_or] at hb; omega))))
          (try have hix := box_below hix hB (Array.getElem?_eq_some_iff.1 hix).1)
          have HX := Lib.hid (below_then HX.out hB)
          have hz := hB.size
          have pe := hq
          clear hq hB
          (try simp only [treeV])
          (rw [HO.out.1, HO.out.2] at *)
          refine hK.out _ _ (fun _ => trivial) ?_
          clear hK K
          (try simp only [List.getElem_toArray, List.getElem_cons_zero, List.getElem_cons_succ, Act.put, List.setIfInBounds_toArray, List.set_cons_zero, List.set_cons_succ])
          refine wpAnyD_take (i := 5) (v := ?_) rfl (by kernel_rfl) (by kernel_rfl) (by kernel_rfl) (by kernel_rfl) (fun _ _ _ h => by first | exact h | cases h.1) (by rfl) (by kernel_rfl) (Or.inl ⟨by rfl, ?_⟩) (by first | exact HS.out | exact hS | exact hdx | exact ⟨hdx, hkx⟩) ?_
          rotate_left
          · (intro w' hw'; (try dsimp only at hw'); skip; go_simp; first | done | with_reducible rfl)
          (try simp only [List.getElem_toArray, List.getElem_cons_zero, List.getElem_cons_succ, Act.put, List.setIfInBounds_toArray, List.set_cons_zero, List.set_cons_succ])
          refine wpAnyD_take (i := 6) (v := ?_) rfl (by kernel_rfl) (by kernel_rfl) (by kernel_rfl) (by kernel_rfl) (fun _ _ _ h => by first | exact h | cases h.1) (by rfl) (by kernel_rfl) (Or.inl ⟨by rfl, ?_⟩) (by first | exact HS.out | exact hS | exact hdx | exact ⟨hdx, hkx⟩) ?_
          rotate_left
          · (intro w' hw'; (try dsimp only at hw'); skip; go_simp; first | done | with_reducible rfl)
          (try simp only [List.getElem_toArray, List.getElem_cons_zero, List.getElem_cons_succ, Act.put, List.setIfInBounds_toArray, List.set_cons_zero, List.set_cons_succ])
          refine wpAnyD_take (i := 7) (v := ?_) rfl (by kernel_rfl) (by kernel_rfl) (by kernel_rfl) (by kernel_rfl) (fun _ _ _ h => by first | exact h | cases h.1) (by rfl) (by kernel_rfl) (Or.inl ⟨by rfl, ?_⟩) (by first | exact HS.out | exact hS | exact hdx | exact ⟨hdx, hkx⟩) ?_
          rotate_left
          · (intro w' hw'; (try dsimp only at hw'); skip; go_simp; first | done | with_reducible rfl)
          (try simp only [List.getElem_toArray, List.getElem_cons_zero, List.getElem_cons_succ, Act.put, List.setIfInBounds_toArray, List.set_cons_zero, List.set_cons_succ])
          refine wpAnyD_all (rs := [9]) (by kernel_rfl) (by simp) (AllD.cons rfl (by rfl) (fun K hK => ?_) AllD.nil)
          have hr0 := (boxed hix) 0 _ rfl; have hr1 := (boxed hix) 1 _ rfl; have hr2 := (boxed hix) 2 _ rfl; have hr3 := (boxed hix) 3 _ rfl; have hr4 := (boxed hix) 4 _ rfl
          have hf0 := boxed_frozen hix 0; have hf1 := boxed_frozen hix 1; have hf2 := boxed_frozen hix 2; have hf3 := boxed_frozen hix 3; have hf4 := boxed_frozen hix 4
          go_simp
          have hgr := put5_grown wx gi 0 (.bool (signedT (atomT [120]) (zeroL 32) (zeroL 64)).list) (.bool (signedT (atomT [120]) (zeroL 32) (zeroL 64)).hinted) (.slice eA1 en1 ec1) (.slice eA2 en2 ec2) (.slice eA3 en3 ec3)
          have hnw := put5_box hix 0 (.bool (signedT (atomT [120]) (zeroL 32) (zeroL 64)).list) (.bool (signedT (atomT [120]) (zeroL 32) (zeroL 64)).hinted) (.slice eA1 en1 ec1) (.slice eA2 en2 ec2) (.slice eA3 en3 ec3)
          clear hr0 hr1 hr2 hr3 hr4 hf0 hf1 hf2 hf3 hf4 hix
          (try have pe := pe.farS hgr (by intro b hb; first | omega | (simp only [false_or] at hb; omega)))
          (try have hix := box_grown hix hgr (by simp <;> omega))
          have HX := Lib.hid (HX.out.grown hgr (by omega) fun k hk => by injection hk; omega)
          have hz := hgr.size
          have hix := hnw
          clear hgr hnw
          refine hK.out _ _ (fun _ => trivial) ?_
          clear hK K
          (try simp only [List.getElem_toArray, List.getElem_cons_zero, List.getElem_cons_succ, Act.put, List.setIfInBounds_toArray, List.set_cons_zero, List.set_cons_succ])
          generalize hpq : put5 wx gi 0 (.bool (signedT (atomT [120]) (zeroL 32) (zeroL 64)).list) (.bool (signedT (atomT [120]) (zeroL 32) (zeroL 64)).hinted) (.slice eA1 en1 ec1) (.slice eA2 en2 ec2) (.slice eA3 en3 ec3) = w8 at *
          unfold put5 at hpq
          rw [hpq]
          clear hpq
          refine wpAnyD_take (i := 10) (v := ?_) rfl (by kernel_rfl) (by kernel_rfl) (by kernel_rfl) (by kernel_rfl) (fun _ _ _ h => by first | exact h | cases h.1) (by rfl) (by kernel_rfl) (Or.inl ⟨by rfl, ?_⟩) (by first | exact HS.out | exact hS | exact hdx | exact ⟨hdx, hkx⟩) ?_
          rotate_left
          · (intro w' hw'; (try dsimp only at hw'); skip; go_simp; first | done | with_reducible rfl)
          (try simp only [List.getElem_toArray, List.getElem_cons_zero, List.getElem_cons_succ, Act.put, List.setIfInBounds_toArray, List.set_cons_zero, List.set_cons_succ])
          refine wpAnyD_done (by kernel_rfl) ?_ _
          go_wp2_with fail
          go_meet
          exact ⟨gi, _, _, _, _, _, _, _, _, _, rfl, rfl, pe.more (by intro b hb; omega), hix, HX.out⟩
      · go_simp
        have hB := Below.alloc (Below.refl wx.heap.size wx) (Nat.le_refl _) (.cells #[.bool false, .bool false, .slice none 0 0, .slice none 0 0, .slice none 0 0] 25)
        have hin := box_new wx #[.bool false, .bool false, .slice none 0 0, .slice none 0 0, .slice none 0 0] 25
        (try have HL := Lib.hid (slKeepS HL.out hB (by intro b hb; first | omega | (simp only [false_or] at hb; omega))))
        have HX := Lib.hid (below_then HX.out hB)
        have hz := hB.size
        have hix := hin
        have hgl := (Array.getElem?_eq_some_iff.1 hix).1
        clear hB hin
        generalize hggi : wx.heap.size = gi at *
        generalize wx.alloc (.cells #[.bool false, .bool false, .slice none 0 0, .slice none 0 0, .slice none 0 0] 25) = wx at *
        refine hK.out _ _ (fun _ => trivial) ?_
        clear hK K
        (try simp only [List.getElem_toArray, List.getElem_cons_zero, List.getElem_cons_succ, Act.put, List.setIfInBounds_toArray, List.set_cons_zero, List.set_cons_succ])
        refine wpAnyD_all (rs := [0, 1]) (by kernel_rfl) (by simp) (AllD.cons rfl (by rfl) (fun K hK => ?_) (AllD.cons rfl (by rfl) (fun K hK => ?_) AllD.nil))
        · go_simp
          refine Calls.mono (atomref_c [120] _ _ (Nat.le_refl _) (by decide)) ?_
          rintro e wx ⟨aA1, an1, ac1, aA2, an2, ac2, aA3, an3, ac3, rfl, hq, hB⟩
          (try have HL := Lib.hid (slKeepS HL.out hB (by intro b hb; first | omega | (simp only [false_or] at hb; omega))))
          (try have hix := box_below hix hB (Array.getElem?_eq_some_iff.1 hix).1)
          have HX := Lib.hid (below_then HX.out hB)
          have hz := hB.size
          have pa := hq
          clear hq hB
          (try simp only [treeV])
          refine hK.out _ _ (fun _ => trivial) ?_
          clear hK K
          (try simp only [List.getElem_toArray, List.getElem_cons_zero, List.getElem_cons_succ, Act.put, List.setIfInBounds_toArray, List.set_cons_zero, List.set_cons_succ])
          refine wpAnyD_all (rs := [1]) (by kernel_rfl) (by simp) (AllD.cons rfl (by rfl) (fun K hK => ?_) AllD.nil)
          obtain ⟨w1, hrun0, hsl0, hB⟩ := make_u8 TB wx 32 (by decide)
          have hrun : Sem.run _ (Instr.makeSlice 22 (Value.int IntKind.i64 32) (Value.int IntKind.i64 32)) wx = _ := hrun0
          go_simp
          (try have pa := pa.keepS hB (by intro b hb; first | omega | (simp only [false_or] at hb; omega)))
          (try have HL := Lib.hid (slKeepS HL.out hB (by intro b hb; first | omega | (simp only [false_or] at hb; omega))))
          (try have hix := box_below hix hB (Array.getElem?_eq_some_iff.1 hix).1)
          have HX := Lib.hid (below_then HX.out hB)
          have hz := hB.size
          have HE := Lib.hid hsl0
          clear hB hrun hrun0 hsl0
          generalize hgg1 : wx.heap.size = g1 at *
          generalize w1 = wx at *
          refine hK.out _ _ (fun _ => trivial) ?_
          clear hK K
          (try simp only [List.getElem_toArray, List.getElem_cons_zero, List.getElem_cons_succ, Act.put, List.setIfInBounds_toArray, List.set_cons_zero, List.set_cons_succ])
          refine wpAnyD_take (i := 3) (v := ?_) rfl (by kernel_rfl) (by kernel_rfl) (by kernel_rfl) (by kernel_rfl) (fun _ _ _ h => by first | exact h | cases h.1) (by rfl) (by kernel_rfl) (Or.inl ⟨by rfl, ?_⟩) (by first | exact HS.out | exact hS | exact hdx | exact ⟨hdx, hkx⟩) ?_
          rotate_left
          · (intro w' hw'; (try dsimp only at hw'); skip; go_simp; first | done | with_reducible rfl)
          (try simp only [List.getElem_toArray, List.getElem_cons_zero, List.getElem_cons_succ, Act.put, List.setIfInBounds_toArray, List.set_cons_zero, List.set_cons_succ])
          refine wpAnyD_all (rs := [4]) (by kernel_rfl) (by simp) (AllD.cons rfl (by rfl) (fun K hK => ?_) AllD.nil)
          go_simp
          refine Calls.mono (sput_c (atomT [120]) (zeroL 32) (zeroL 64) _ _ (Nat.le_refl _) _ _ _ _ _ _ _ _ _ _ _ _ _ _ _ (pa.more (by intro b hb; omega)) (Rep.sl_more HE.out (by intro b hb; omega)) (Rep.sl_more HL.out (by intro b hb; omega)) (HTT.out.next HX.out) (by rw [atomT_wt]; decide) (by decide) (by decide)) ?_
          rintro e wx ⟨eA1, en1, ec1, eA2, en2, ec2, eA3, en3, ec3, rfl, hq, hB⟩
          (try have pa := pa.keepS hB (by intro b hb; first | omega | (simp only [false_or] at hb; omega)))
          (try have HE := Lib.hid (slKeepS HE.out hB (by intro b hb; first | omega | (simp only [false_or] at hb; omega))))
          (try have HL := Lib.hid (slKeepS HL.out hB (by intro b hb; first | omega | (simp only [false_or] at hb; omega))))
          (try have hix := box_below hix hB (Array.getElem?_eq_some_iff.1 hix).1)
          have HX := Lib.hid (below_then HX.out hB)
          have hz := hB.size
          have pe := hq
          clear hq hB
          (try simp only [treeV])
          (rw [HO.out.1, HO.out.2] at *)
          refine hK.out _ _ (fun _ => trivial) ?_
          clear hK K
          (try simp only [List.getElem_toArray, List.getElem_cons_zero, List.getElem_cons_succ, Act.put, List.setIfInBounds_toArray, List.set_cons_zero, List.set_cons_succ])
          refine wpAnyD_take (i := 5) (v := ?_) rfl (by kernel_rfl) (by kernel_rfl) (by kernel_rfl) (by kernel_rfl) (fun _ _ _ h => by first | exact h | cases h.1) (by rfl) (by kernel_rfl) (Or.inl ⟨by rfl, ?_⟩) (by first | exact HS.out | exact hS | exact hdx | exact ⟨hdx, hkx⟩) ?_
          rotate_left
          · (intro w' hw'; (try dsimp only at hw'); skip; go_simp; first | done | with_reducible rfl)
          (try simp only [List.getElem_toArray, List.getElem_cons_zero, List.getElem_cons_succ, Act.put, List.setIfInBounds_toArray, List.set_cons_zero, List.set_cons_succ])
          refine wpAnyD_take (i := 6) (v := ?_) rfl (by kernel_rfl) (by kernel_rfl) (by kernel_rfl) (by kernel_rfl) (fun _ _ _ h => by first | exact h | cases h.1) (by rfl) (by kernel_rfl) (Or.inl ⟨by rfl, ?_⟩) (by first | exact HS.out | exact hS | exact hdx | exact ⟨hdx, hkx⟩) ?_
          rotate_left
          · (intro w' hw'; (try dsimp only at hw'); skip; go_simp; first | done | with_reducible rfl)
          (try simp only [List.getElem_toArray, List.getElem_cons_zero, List.getElem_cons_succ, Act.put, List.setIfInBounds_toArray, List.set_cons_zero, List.set_cons_succ])
          refine wpAnyD_take (i := 7) (v := ?_) rfl (by kernel_rfl) (by kernel_rfl) (by kernel_rfl) (by kernel_rfl) (fun _ _ _ h => by first | exact h | cases h.1) (by rfl) (by kernel_rfl) (Or.inl ⟨by rfl, ?_⟩) (by first | exact HS.out | exact hS | exact hdx | exact ⟨hdx, hkx⟩) ?_
          rotate_left
          · (intro w' hw'; (try dsimp only at hw'); skip; go_simp; first | done | with_reducible rfl)
          (try simp only [List.getElem_toArray, List.getElem_cons_zero, List.getElem_cons_succ, Act.put, List.setIfInBounds_toArray, List.set_cons_zero, List.set_cons_succ])
          refine wpAnyD_all (rs := [9]) (by kernel_rfl) (by simp) (AllD.cons rfl (by rfl) (fun K hK => ?_) AllD.nil)
          have hr0 := (boxed hix) 0 _ rfl; have hr1 := (boxed hix) 1 _ rfl; have hr2 := (boxed hix) 2 _ rfl; have hr3 := (boxed hix) 3 _ rfl; have hr4 := (boxed hix) 4 _ rfl
          have hf0 := boxed_frozen hix 0; have hf1 := boxed_frozen hix 1; have hf2 := boxed_frozen hix 2; have hf3 := boxed_frozen hix 3; have hf4 := boxed_frozen hix 4
          go_simp
          have hgr := put5_grown wx gi 0 (.bool (signedT (atomT [120]) (zeroL 32) (zeroL 64)).list) (.bool (signedT (atomT [120]) (zeroL 32) (zeroL 64)).hinted) (.slice eA1 en1 ec1) (.slice eA2 en2 ec2) (.slice eA3 en3 ec3)
          have hnw := put5_box hix 0 (.bool (signedT (atomT [120]) (zeroL 32) (zeroL 64)).list) (.bool (signedT (atomT [120]) (zeroL 32) (zeroL 64)).hinted) (.slice eA1 en1 ec1) (.slice eA2 en2 ec2) (.slice eA3 en3 ec3)
          clear hr0 hr1 hr2 hr3 hr4 hf0 hf1 hf2 hf3 hf4 hix
          (try have pe := pe.farS hgr (by intro b hb; first | omega | (simp only [false_or] at hb; omega)))
          (try have hix := box_grown hix hgr (by simp <;> omega))
          have HX := Lib.hid (HX.out.grown hgr (by omega) fun k hk => by injection hk; omega)
          have hz := hgr.size
          have hix := hnw
          clear hgr hnw
          refine hK.out _ _ (fun _ => trivial) ?_
          clear hK K
          (try simp only [List.getElem_toArray, List.getElem_cons_zero, List.getElem_cons_succ, Act.put, List.setIfInBounds_toArray, List.set_cons_zero, List.set_cons_succ])
          generalize hpq : put5 wx gi 0 (.bool (signedT (atomT [120]) (zeroL 32) (zeroL 64)).list) (.bool (signedT (atomT [120]) (zeroL 32) (zeroL 64)).hinted) (.slice eA1 en1 ec1) (.slice eA2 en2 ec2) (.slice eA3 en3 ec3) = w8 at *
          unfold put5 at hpq
          rw [hpq]
          clear hpq
          refine wpAnyD_take (i := 10) (v := ?_) rfl (by kernel_rfl) (by kernel_rfl) (by kernel_rfl) (by kernel_rfl) (fun _ _ _ h => by first | exact h | cases h.1) (by rfl) (by kernel_rfl) (Or.inl ⟨by rfl, ?_⟩) (by first | exact HS.out | exact hS | exact hdx | exact ⟨hdx, hkx⟩) ?_
          rotate_left
          · (intro w' hw'; (try dsimp only at hw'); skip; go_simp; first | done | with_reducible rfl)
          (try simp only [List.getElem_toArray, List.getElem_cons_zero, List.getElem_cons_succ, Act.put, List.setIfInBounds_toArray, List.set_cons_zero, List.set_cons_succ])
          refine wpAnyD_done (by kernel_rfl) ?_ _
          go_wp2_with fail
          go_meet
          exact ⟨gi, _, _, _, _, _, _, _, _, _, rfl, rfl, pe.more (by intro b hb; omega), hix, HX.out⟩
        · obtain ⟨w1, hrun0, hsl0, hB⟩ := make_u8 TB wx 32 (by decide)
          have hrun : Sem.run _ (Instr.makeSlice 22 (Value.int IntKind.i64 32) (Value.int IntKind.i64 32)) wx = _ := hrun0
          go_simp
          (try have HL := Lib.hid (slKeepS HL.out hB (by intro b hb; first | omega | (simp only [false_or] at hb; omega))))
          (try have hix := box_below hix hB (Array.getElem?_eq_some_iff.1 hix).1)
          have HX := Lib.hid (below_then HX.out hB)
          have hz := hB.size
          have HE := Lib.hid hsl0
          clear hB hrun hrun0 hsl0
          generalize hgg1 : wx.heap.size = g1 at *
          generalize w1 = wx at *
          refine hK.out _ _ (fun _ => trivial) ?_
          clear hK K
          (try simp only [List.getElem_toArray, List.getElem_cons_zero, List.getElem_cons_succ, Act.put, List.setIfInBounds_toArray, List.set_cons_zero, List.set_cons_succ])
          refine wpAnyD_all (rs := [0]) (by kernel_rfl) (by simp) (AllD.cons rfl (by rfl) (fun K hK => ?_) AllD.nil)
          go_simp
          refine Calls.mono (atomref_c [120] _ _ (Nat.le_refl _) (by decide)) ?_
          rintro e wx ⟨aA1, an1, ac1, aA2, an2, ac2, aA3, an3, ac3, rfl, hq, hB⟩
          (try have HE := Lib.hid (slKeepS HE.out hB (by intro b hb; first | omega | (simp only [false_or] at hb; omega))))
          (try have HL := Lib.hid (slKeepS HL.out hB (by intro b hb; first | omega | (simp only [false_or] at hb; omega))))
          (try have hix := box_below hix hB (Array.getElem?_eq_some_iff.1 hix).1)
          have HX := Lib.hid (below_then HX.out hB)
          have hz := hB.size
          have pa := hq
          clear hq hB
          (try simp only [treeV])
          refine hK.out _ _ (fun _ => trivial) ?_
          clear hK K
          (try simp only [List.getElem_toArray, List.getElem_cons_zero, List.getElem_cons_succ, Act.put, List.setIfInBounds_toArray, List.set_cons_zero, List.set_cons_succ])
          refine wpAnyD_take (i := 3) (v := ?_) rfl (by kernel_rfl) (by kernel_rfl) (by kernel_rfl) (by kernel_rfl) (fun _ _ _ h => by first | exact h | cases h.1) (by rfl) (by kernel_rfl) (Or.inl ⟨by rfl, ?_⟩) (by first | exact HS.out | exact hS | exact hdx | exact ⟨hdx, hkx⟩) ?_
          rotate_left
          · (intro w' hw'; (try dsimp only at hw'); skip; go_simp; first | done | with_reducible rfl)
          (try simp only [List.getElem_toArray, List.getElem_cons_zero, List.getElem_cons_succ, Act.put, List.setIfInBounds_toArray, List.set_cons_zero, List.set_cons_succ])
          refine wpAnyD_all (rs := [4]) (by kernel_rfl) (by simp) (AllD.cons rfl (by rfl) (fun K hK => ?_) AllD.nil)
          go_simp
          refine Calls.mono (sput_c (atomT [120]) (zeroL 32) (zeroL 64) _ _ (Nat.le_refl _) _ _ _ _ _ _ _ _ _ _ _ _ _ _ _ (pa.more (by intro b hb; omega)) (Rep.sl_more HE.out (by intro b hb; omega)) (Rep.sl_more HL.out (by intro b hb; omega)) (HTT.out.next HX.out) (by rw [atomT_wt]; decide) (by decide) (by decide)) ?_
          rintro e wx ⟨eA1, en1, ec1, eA2, en2, ec2, eA3, en3, ec3, rfl, hq, hB⟩
          (try have pa := pa.keepS hB (by intro b hb; first | omega | (simp only [false_or] at hb; omega)))
          (try have HE := Lib.hid (slKeepS HE.out hB (by intro b hb; first | omega | (simp only [false_or] at hb; omega))))
          (try have HL := Lib.hid (slKeepS HL.out hB (by intro b hb; first | omega | (simp only [false_or] at hb; omega))))
          (try have hix := box_below hix hB (Array.getElem?_eq_some_iff.1 hix).1)
          have HX := Lib.hid (below_then HX.out hB)
          have hz := hB.size
          have pe := hq
          clear hq hB
          (try simp only [treeV])
          (rw [HO.out.1, HO.out.2] at *)
          refine hK.out _ _ (fun _ => trivial) ?_
          clear hK K
          (try simp only [List.getElem_toArray, List.getElem_cons_zero, List.getElem_cons_succ, Act.put, List.setIfInBounds_toArray, List.set_cons_zero, List.set_cons_succ])
          refine wpAnyD_take (i := 5) (v := ?_) rfl (by kernel_rfl) (by kernel_rfl) (by kernel_rfl) (by kernel_rfl) (fun _ _ _ h => by first | exact h | cases h.1) (by rfl) (by kernel_rfl) (Or.inl ⟨by rfl, ?_⟩) (by first | exact HS.out | exact hS | exact hdx | exact ⟨hdx, hkx⟩) ?_
          rotate_left
          · (intro w' hw'; (try dsimp only at hw'); skip; go_simp; first | done | with_reducible rfl)
          (try simp only [List.getElem_toArray, List.getElem_cons_zero, List.getElem_cons_succ, Act.put, List.setIfInBounds_toArray, List.set_cons_zero, List.set_cons_succ])
          refine wpAnyD_take (i := 6) (v := ?_) rfl (by kernel_rfl) (by kernel_rfl) (by kernel_rfl) (by kernel_rfl) (fun _ _ _ h => by first | exact h | cases h.1) (by rfl) (by kernel_rfl) (Or.inl ⟨by rfl, ?_⟩) (by first | exact HS.out | exact hS | exact hdx | exact ⟨hdx, hkx⟩) ?_
          rotate_left
          · (intro w' hw'; (try dsimp only at hw'); skip; go_simp; first | done | with_reducible rfl)
          (try simp only [List.getElem_toArray, List.getElem_cons_zero, List.getElem_cons_succ, Act.put, List.setIfInBounds_toArray, List.set_cons_zero, List.set_cons_succ])
          refine wpAnyD_take (i := 7) (v := ?_) rfl (by kernel_rfl) (by kernel_rfl) (by kernel_rfl) (by kernel_rfl) (fun _ _ _ h => by first | exact h | cases h.1) (by rfl) (by kernel_rfl) (Or.inl ⟨by rfl, ?_⟩) (by first | exact HS.out | exact hS | exact hdx | exact ⟨hdx, hkx⟩) ?_
          rotate_left
          · (intro w' hw'; (try dsimp only at hw'); skip; go_simp; first | done | with_reducible rfl)
          (try simp only [List.getElem_toArray, List.getElem_cons_zero, List.getElem_cons_succ, Act.put, List.setIfInBounds_toArray, List.set_cons_zero, List.set_cons_succ])
          refine wpAnyD_all (rs := [9]) (by kernel_rfl) (by simp) (AllD.cons rfl (by rfl) (fun K hK => ?_) AllD.nil)
          have hr0 := (boxed hix) 0 _ rfl; have hr1 := (boxed hix) 1 _ rfl; have hr2 := (boxed hix) 2 _ rfl; have hr3 := (boxed hix) 3 _ rfl; have hr4 := (boxed hix) 4 _ rfl
          have hf0 := boxed_frozen hix 0; have hf1 := boxed_frozen hix 1; have hf2 := boxed_frozen hix 2; have hf3 := boxed_frozen hix 3; have hf4 := boxed_frozen hix 4
          go_simp
          have hgr := put5_grown wx gi 0 (.bool (signedT (atomT [120]) (zeroL 32) (zeroL 64)).list) (.bool (signedT (atomT [120]) (zeroL 32) (zeroL 64)).hinted) (.slice eA1 en1 ec1) (.slice eA2 en2 ec2) (.slice eA3 en3 ec3)
          have hnw := put5_box hix 0 (.bool (signedT (atomT [120]) (zeroL 32) (zeroL 64)).list) (.bool (signedT (atomT [120]) (zeroL 32) (zeroL 64)).hinted) (.slice eA1 en1 ec1) (.slice eA2 en2 ec2) (.slice eA3 en3 ec3)
          clear hr0 hr1 hr2 hr3 hr4 hf0 hf1 hf2 hf3 hf4 hix
          (try have pe := pe.farS hgr (by intro b hb; first | omega | (simp only [false_or] at hb; omega)))
          (try have hix := box_grown hix hgr (by simp <;> omega))
          have HX := Lib.hid (HX.out.grown hgr (by omega) fun k hk => by injection hk; omega)
          have hz := hgr.size
          have hix := hnw
          clear hgr hnw
          refine hK.out _ _ (fun _ => trivial) ?_
          clear hK K
          (try simp only [List.getElem_toArray, List.getElem_cons_zero, List.getElem_cons_succ, Act.put, List.setIfInBounds_toArray, List.set_cons_zero, List.set_cons_succ])
          generalize hpq : put5 wx gi 0 (.bool (signedT (atomT [120]) (zeroL 32) (zeroL 64)).list) (.bool (signedT (atomT [120]) (zeroL 32) (zeroL 64)).hinted) (.slice eA1 en1 ec1) (.slice eA2 en2 ec2) (.slice eA3 en3 ec3) = w8 at *
          unfold put5 at hpq
          rw [hpq]
          clear hpq
          refine wpAnyD_take (i := 10) (v := ?_) rfl (by kernel_rfl) (by kernel_rfl) (by kernel_rfl) (by kernel_rfl) (fun _ _ _ h => by first | exact h | cases h.1) (by rfl) (by kernel_rfl) (Or.inl ⟨by rfl, ?_⟩) (by first | exact HS.out | exact hS | exact hdx | exact ⟨hdx, hkx⟩) ?_
          rotate_left
          · (intro w' hw'; (try dsimp only at hw'); skip; go_simp; first | done | with_reducible rfl)
          (try simp only [List.getElem_toArray, List.getElem_cons_zero, List.getElem_cons_succ, Act.put, List.setIfInBounds_toArray, List.set_cons_zero, List.set_cons_succ])
          refine wpAnyD_done (by kernel_rfl) ?_ _
          go_wp2_with fail
          go_meet
          exact ⟨gi, _, _, _, _, _, _, _, _, _, rfl, rfl, pe.more (by intro b hb; omega), hix, HX.out⟩
    · go_simp
      have hB := Below.alloc (Below.refl wx.heap.size wx) (Nat.le_refl _) (.cells #[.bool false, .bool false, .slice none 0 0, .slice none 0 0, .slice none 0 0] 25)
      have hin := box_new wx #[.bool false, .bool false, .slice none 0 0, .slice none 0 0, .slice none 0 0] 25
      have HX := Lib.hid (below_then HX.out hB)
      have hz := hB.size
      have hix := hin
      have hgl := (Array.getElem?_eq_some_iff.1 hix).1
      clear hB hin
      generalize hggi : wx.heap.size = gi at *
      generalize wx.alloc (.cells #[.bool false, .bool false, .slice none 0 0, .slice none 0 0, .slice none 0 0] 25) = wx at *
      refine hK.out _ _ (fun _ => trivial) ?_
      clear hK K
      (try simp only [List.getElem_toArray, List.getElem_cons_zero, List.getElem_cons_succ, Act.put, List.setIfInBounds_toArray, List.set_cons_zero, List.set_cons_succ])
      refine wpAnyD_all (rs := [0, 1, 2]) (by kernel_rfl) (by simp) (AllD.cons rfl (by rfl) (fun K hK => ?_) (AllD.cons rfl (by rfl) (fun K hK => ?_) (AllD.cons rfl (by rfl) (fun K hK => ?_) AllD.nil)))
      · go_simp
        refine Calls.mono (atomref_c [120] _ _ (Nat.le_refl _) (by decide)) ?_
        rintro e wx ⟨aA1, an1, ac1, aA2, an2, ac2, aA3, an3, ac3, rfl, hq, hB⟩
        (try have hix := box_below hix hB (Array.getElem?_eq_some_iff.1 hix).1)
        have HX := Lib.hid (below_then HX.out hB)
        have hz := hB.size
        have pa := hq
        clear hq hB
        (try simp only [treeV])
        refine hK.out _ _ (fun _ => trivial) ?_
        clear hK K
        (try simp only [List.getElem_toArray, List.getElem_cons_zero, List.getElem_cons_succ, Act.put, List.setIfInBounds_toArray, List.set_cons_zero, List.set_cons_succ])
        refine wpAnyD_all (rs := [1, 2]) (by kernel_rfl) (by simp) (AllD.cons rfl (by rfl) (fun K hK => ?_) (AllD.cons rfl (by rfl) (fun K hK => ?_) AllD.nil))
        · obtain ⟨w1, hrun0, hsl0, hB⟩ := make_u8 TB wx 32 (by decide)
          have hrun : Sem.run _ (Instr.makeSlice 22 (Value.int IntKind.i64 32) (Value.int IntKind.i64 32)) wx = _ := hrun0
          go_simp
          (try have pa := pa.keepS hB (by intro b hb; first | omega | (simp only [false_or] at hb; omega)))
          (try have hix := box_below hix hB (Array.getElem?_eq_some_iff.1 hix).1)
          have HX := Lib.hid (below_then HX.out hB)
          have hz := hB.size
          have HE := Lib.hid hsl0
          clear hB hrun hrun0 hsl0
          generalize hgg1 : wx.heap.size = g1 at *
          generalize w1 = wx at *
          refine hK.out _ _ (fun _ => trivial) ?_
          clear hK K
          (try simp only [List.getElem_toArray, List.getElem_cons_zero, List.getElem_cons_succ, Act.put, List.setIfInBounds_toArray, List.set_cons_zero, List.set_cons_succ])
          refine wpAnyD_all (rs := [2]) (by kernel_rfl) (by simp) (AllD.cons rfl (by rfl) (fun K hK => ?_) AllD.nil)
          obtain ⟨w1, hrun0, hsl0, hB⟩ := make_u8 TB wx 64 (by decide)
          have hrun : Sem.run _ (Instr.makeSlice 22 (Value.int IntKind.i64 64) (Value.int IntKind.i64 64)) wx = _ := hrun0
          go_simp
          (try have pa := pa.keepS hB (by intro b hb; first | omega | (simp only [false_or] at hb; omega)))
          (try have HE := Lib.hid (slKeepS HE.out hB (by intro b hb; first | omega | (simp only [false_or] at hb; omega))))
          (try have hix := box_below hix hB (Array.getElem?_eq_some_iff.1 hix).1)
          have HX := Lib.hid (below_then HX.out hB)
          have hz := hB.size
          have HL := Lib.hid hsl0
          clear hB hrun hrun0 hsl0
          generalize hgg2 : wx.heap.size = g2 at *
          generalize w1 = wx at *
          refine hK.out _ _ (fun _ => trivial) ?_
          clear hK K
          (try simp only [List.getElem_toArray, List.getElem_cons_zero, List.getElem_cons_succ, Act.put, List.setIfInBounds_toArray, List.set_cons_zero, List.set_cons_succ])
          refine wpAnyD_take (i := 3) (v := ?_) rfl (by kernel_rfl) (by kernel_rfl) (by kernel_rfl) (by kernel_rfl) (fun _ _ _ h => by first | exact h | cases h.1) (by rfl) (by kernel_rfl) (Or.inl ⟨by rfl, ?_⟩) (by first | exact HS.out | exact hS | exact hdx | exact ⟨hdx, hkx⟩) ?_
          rotate_left
          · (intro w' hw'; (try dsimp only at hw'); skip; go_simp; first | done | with_reducible rfl)
          (try simp only [List.getElem_toArray, List.getElem_cons_zero, List.getElem_cons_succ, Act.put, List.setIfInBounds_toArray, List.set_cons_zero, List.set_cons_succ])
          refine wpAnyD_all (rs := [4]) (by kernel_rfl) (by simp) (AllD.cons rfl (by rfl) (fun K hK => ?_) AllD.nil)
          go_simp
          refine Calls.mono (sput_c (atomT [120]) (zeroL 32) (zeroL 64) _ _ (Nat.le_refl _) _ _ _ _ _ _ _ _ _ _ _ _ _ _ _ (pa.more (by intro b hb; omega)) (Rep.sl_more HE.out (by intro b hb; omega)) (Rep.sl_more HL.out (by intro b hb; omega)) (HTT.out.next HX.out) (by rw [atomT_wt]; decide) (by decide) (by decide)) ?_
          rintro e wx ⟨eA1, en1, ec1, eA2, en2, ec2, eA3, en3, ec3, rfl, hq, hB⟩
          (try have pa := pa.keepS hB (by intro b hb; first | omega | (simp only [false_or] at hb; omega)))
          (try have HE := Lib.hid (slKeepS HE.out hB (by intro b hb; first | omega | (simp only [false_or] at hb; omega))))
          (try have HL := Lib.hid (slKeepS HL.out hB (by intro b hb; first | omega | (simp only [false_or] at hb; omega))))
          (try have hix := box_below hix hB (Array.getElem?_eq_some_iff.1 hix).1)
          have HX := Lib.hid (below_then HX.out hB)
          have hz := hB.size
          have pe := hq
          clear hq hB
          (try simp only [treeV])
          (rw [HO.out.1, HO.out.2] at *)
          refine hK.out _ _ (fun _ => trivial) ?_
          clear hK K
          (try simp only [List.getElem_toArray, List.getElem_cons_zero, List.getElem_cons_succ, Act.put, List.setIfInBounds_toArray, List.set_cons_zero, List.set_cons_succ])
          refine wpAnyD_take (i := 5) (v := ?_) rfl (by kernel_rfl) (by kernel_rfl) (by kernel_rfl) (by kernel_rfl) (fun _ _ _ h => by first | exact h | cases h.1) (by rfl) (by kernel_rfl) (Or.inl ⟨by rfl, ?_⟩) (by first | exact HS.out | exact hS | exact hdx | exact ⟨hdx, hkx⟩) ?_
          rotate_left
          · (intro w' hw'; (try dsimp only at hw'); skip; go_simp; first | done | with_reducible rfl)
          (try simp only [List.getElem_toArray, List.getElem_cons_zero, List.getElem_cons_succ, Act.put, List.setIfInBounds_toArray, List.set_cons_zero, List.set_cons_succ])
          refine wpAnyD_take (i := 6) (v := ?_) rfl (by kernel_rfl) (by kernel_rfl) (by kernel_rfl) (by kernel_rfl) (fun _ _ _ h => by first | exact h | cases h.1) (by rfl) (by kernel_rfl) (Or.inl ⟨by rfl, ?_⟩) (by first | exact HS.out | exact hS | exact hdx | exact ⟨hdx, hkx⟩) ?_
          rotate_left
          · (intro w' hw'; (try dsimp only at hw'); skip; go_simp; first | done | with_reducible rfl)
          (try simp only [List.getElem_toArray, List.getElem_cons_zero, List.getElem_cons_succ, Act.put, List.setIfInBounds_toArray, List.set_cons_zero, List.set_cons_succ])
          refine wpAnyD_take (i := 7) (v := ?_) rfl (by kernel_rfl) (by kernel_rfl) (by kernel_rfl) (by kernel_rfl) (fun _ _ _ h => by first | exact h | cases h.1) (by rfl) (by kernel_rfl) (Or.inl ⟨by rfl, ?_⟩) (by first | exact HS.out | exact hS | exact hdx | exact ⟨hdx, hkx⟩) ?_
          rotate_left
          · (intro w' hw'; (try dsimp only at hw'); skip; go_simp; first | done | with_reducible rfl)
          (try simp only [List.getElem_toArray, List.getElem_cons_zero, List.getElem_cons_succ, Act.put, List.setIfInBounds_toArray, List.set_cons_zero, List.set_cons_succ])
          refine wpAnyD_all (rs := [9]) (by kernel_rfl) (by simp) (AllD.cons rfl (by rfl) (fun K hK => ?_) AllD.nil)
          have hr0 := (boxed hix) 0 _ rfl; have hr1 := (boxed hix) 1 _ rfl; have hr2 := (boxed hix) 2 _ rfl; have hr3 := (boxed hix) 3 _ rfl; have hr4 := (boxed hix) 4 _ rfl
          have hf0 := boxed_frozen hix 0; have hf1 := boxed_frozen hix 1; have hf2 := boxed_frozen hix 2; have hf3 := boxed_frozen hix 3; have hf4 := boxed_frozen hix 4
          go_simp
          have hgr := put5_grown wx gi 0 (.bool (signedT (atomT [120]) (zeroL 32) (zeroL 64)).list) (.bool (signedT (atomT [120]) (zeroL 32) (zeroL 64)).hinted) (.slice eA1 en1 ec1) (.slice eA2 en2 ec2) (.slice eA3 en3 ec3)
          have hnw := put5_box hix 0 (.bool (signedT (atomT [120]) (zeroL 32) (zeroL 64)).list) (.bool (signedT (atomT [120]) (zeroL 32) (zeroL 64)).hinted) (.slice eA1 en1 ec1) (.slice eA2 en2 ec2) (.slice eA3 en3 ec3)
          clear hr0 hr1 hr2 hr3 hr4 hf0 hf1 hf2 hf3 hf4 hix
          (try have pe := pe.farS hgr (by intro b hb; first | omega | (simp only [false_or] at hb; omega)))
          (try have hix := box_grown hix hgr (by simp <;> omega))
          have HX := Lib.hid (HX.out.grown hgr (by omega) fun k hk => by injection hk; omega)
          have hz := hgr.size
          have hix := hnw
          clear hgr hnw
          refine hK.out _ _ (fun _ => trivial) ?_
          clear hK K
          (try simp only [List.getElem_toArray, List.getElem_cons_zero, List.getElem_cons_succ, Act.put, List.setIfInBounds_toArray, List.set_cons_zero, List.set_cons_succ])
          generalize hpq : put5 wx gi 0 (.bool (signedT (atomT [120]) (zeroL 32) (zeroL 64)).list) (.bool (signedT (atomT [120]) (zeroL 32) (zeroL 64)).hinted) (.slice eA1 en1 ec1) (.slice eA2 en2 ec2) (.slice eA3 en3 ec3) = w8 at *
          unfold put5 at hpq
          rw [hpq]
          clear hpq
          refine wpAnyD_take (i := 10) (v := ?_) rfl (by kernel_rfl) (by kernel_rfl) (by kernel_rfl) (by kernel_rfl) (fun _ _ _ h => by first | exact h | cases h.1) (by rfl) (by kernel_rfl) (Or.inl ⟨by rfl, ?_⟩) (by first | exact HS.out | exact hS | exact hdx | exact ⟨hdx, hkx⟩) ?_
          rotate_left
          · (intro w' hw'; (try dsimp only at hw'); skip; go_simp; first | done | with_reducible rfl)
          (try simp only [List.getElem_toArray, List.getElem_cons_zero, List.getElem_cons_succ, Act.put, List.setIfInBounds_toArray, List.set_cons_zero, List.set_cons_succ])
          refine wpAnyD_done (by kernel_rfl) ?_ _
          go_wp2_with fail
          go_meet
          exact ⟨gi, _, _, _, _, _, _, _, _, _, rfl, rfl, pe.more (by intro b hb; omega), hix, HX.out⟩
        · obtain ⟨w1, hrun0, hsl0, hB⟩ := make_u8 TB wx 64 (by decide)
          have hrun : Sem.run _ (Instr.makeSlice 22 (Value.int IntKind.i64 64) (Value.int IntKind.i64 64)) wx = _ := hrun0
          go_simp
          (try have pa := pa.keepS hB (by intro b hb; first | omega | (simp only [false_or] at hb; omega)))
          (try have hix := box_below hix hB (Array.getElem?_eq_some_iff.1 hix).1)
          have HX := Lib.hid (below_then HX.out hB)
          have hz := hB.size
          have HL := Lib.hid hsl0
          clear hB hrun hrun0 hsl0
          generalize hgg2 : wx.heap.size = g2 at *
          generalize w1 = wx at *
          refine hK.out _ _ (fun _ => trivial) ?_
          clear hK K
          (try simp only [List.getElem_toArray, List.getElem_cons_zero, List.getElem_cons_succ, Act.put, List.setIfInBounds_toArray, List.set_cons_zero, List.set_cons_succ])
          refine wpAnyD_all (rs := [1]) (by kernel_rfl) (by simp) (AllD.cons rfl (by rfl) (fun K hK => ?_) AllD.nil)
          obtain ⟨w1, hrun0, hsl0, hB⟩ := make_u8 TB wx 32 (by decide)
          have hrun : Sem.run _ (Instr.makeSlice 22 (Value.int IntKind.i64 32) (Value.int IntKind.i64 32)) wx = _ := hrun0
          go_simp
          (try have pa := pa.keepS hB (by intro b hb; first | omega | (simp only [false_or] at hb; omega)))
          (try have HL := Lib.hid (slKeepS HL.out hB (by intro b hb; first | omega | (simp only [false_or] at hb; omega))))
          (try have hix := box_below hix hB (Array.getElem?_eq_some_iff.1 hix).1)
          have HX := Lib.hid (below_then HX.out hB)
          have hz := hB.size
          have HE := Lib.hid hsl0
          clear hB hrun hrun0 hsl0
          generalize hgg1 : wx.heap.size = g1 at *
          generalize w1 = wx at *
          refine hK.out _ _ (fun _ => trivial) ?_
          clear hK K
          (try simp only [List.getElem_toArray, List.getElem_cons_zero, List.getElem_cons_succ, Act.put, List.setIfInBounds_toArray, List.set_cons_zero, List.set_cons_succ])
          refine wpAnyD_take (i := 3) (v := ?_) rfl (by kernel_rfl) (by kernel_rfl) (by kernel_rfl) (by kernel_rfl) (fun _ _ _ h => by first | exact h | cases h.1) (by rfl) (by kernel_rfl) (Or.inl ⟨by rfl, ?_⟩) (by first | exact HS.out | exact hS | exact hdx | exact ⟨hdx, hkx⟩) ?_
          rotate_left
          · (intro w' hw'; (try dsimp only at hw'); skip; go_simp; first | done | with_reducible rfl)
          (try simp only [List.getElem_toArray, List.getElem_cons_zero, List.getElem_cons_succ, Act.put, List.setIfInBounds_toArray, List.set_cons_zero, List.set_cons_succ])
          refine wpAnyD_all (rs := [4]) (by kernel_rfl) (by simp) (AllD.cons rfl (by rfl) (fun K hK => ?_) AllD.nil)
          go_simp
          refine Calls.mono (sput_c (atomT [120]) (zeroL 32) (zeroL 64) _ _ (Nat.le_refl _) _ _ _ _ _ _ _ _ _ _ _ _ _ _ _ (pa.more (by intro b hb; omega)) (Rep.sl_more HE.out (by intro b hb; omega)) (Rep.sl_more HL.out (by intro b hb; omega)) (HTT.out.next HX.out) (by rw [atomT_wt]; decide) (by decide) (by decide)) ?_
          rintro e wx ⟨eA1, en1, ec1, eA2, en2, ec2, eA3, en3, ec3, rfl, hq, hB⟩
          (try have pa := pa.keepS hB (by intro b hb; first | omega | (simp only [false_or] at hb; omega)))
          (try have HE := Lib.hid (slKeepS HE.out hB (by intro b hb; first | omega | (simp only [false_or] at hb; omega))))
          (try have HL := Lib.hid (slKeepS HL.out hB (by intro b hb; first | omega | (simp only [false_or] at hb; omega))))
          (try have hix := box_below hix hB (Array.getElem?_eq_some_iff.1 hix).1)
          have HX := Lib.hid (below_then HX.out hB)
          have hz := hB.size
          have pe := hq
          clear hq hB
          (try simp only [treeV])
          (rw [HO.out.1, HO.out.2] at *)
          refine hK.out _ _ (fun _ => trivial) ?_
          clear hK K
          (try simp only [List.getElem_toArray, List.getElem_cons_zero, List.getElem_cons_succ, Act.put, List.setIfInBounds_toArray, List.set_cons_zero, List.set_cons_succ])
          refine wpAnyD_take (i := 5) (v := ?_) rfl (by kernel_rfl) (by kernel_rfl) (by kernel_rfl) (by kernel_rfl) (fun _ _ _ h => by first | exact h | cases h.1) (by rfl) (by kernel_rfl) (Or.inl ⟨by rfl, ?_⟩) (by first | exact HS.out | exact hS | exact hdx | exact ⟨hdx, hkx⟩) ?_
          rotate_left
          · (intro w' hw'; (try dsimp only at hw'); skip; go_simp; first | done | with_reducible rfl)
          (try simp only [List.getElem_toArray, List.getElem_cons_zero, List.getElem_cons_succ, Act.put, List.setIfInBounds_toArray, List.set_cons_zero, List.set_cons_succ])
          refine wpAnyD_take (i := 6) (v := ?_) rfl (by kernel_rfl) (by kernel_rfl) (by kernel_rfl) (by kernel_rfl) (fun _ _ _ h => by first | exact h | cases h.1) (by rfl) (by kernel_rfl) (Or.inl ⟨by rfl, ?_⟩) (by first | exact HS.out | exact hS | exact hdx | exact ⟨hdx, hkx⟩) ?_
          rotate_left
          · (intro w' hw'; (try dsimp only at hw'); skip; go_simp; first | done | with_reducible rfl)
          (try simp only [List.getElem_toArray, List.getElem_cons_zero, List.getElem_cons_succ, Act.put, List.setIfInBounds_toArray, List.set_cons_zero, List.set_cons_succ])
          refine wpAnyD_take (i := 7) (v := ?_) rfl (by kernel_rfl) (by kernel_rfl) (by kernel_rfl) (by kernel_rfl) (fun _ _ _ h => by first | exact h | cases h.1) (by rfl) (by kernel_rfl) (Or.inl ⟨by rfl, ?_⟩) (by first | exact HS.out | exact hS | exact hdx | exact ⟨hdx, hkx⟩) ?_
          rotate_left
          · (intro w' hw'; (try dsimp only at hw'); skip; go_simp; first | done | with_reducible rfl)
          (try simp only [List.getElem_toArray, List.getElem_cons_zero, List.getElem_cons_succ, Act.put, List.setIfInBounds_toArray, List.set_cons_zero, List.set_cons_succ])
          refine wpAnyD_all (rs := [9]) (by kernel_rfl) (by simp) (AllD.cons rfl (by rfl) (fun K hK => ?_) AllD.nil)
          have hr0 := (boxed hix) 0 _ rfl; have hr1 := (boxed hix) 1 _ rfl; have hr2 := (boxed hix) 2 _ rfl; have hr3 := (boxed hix) 3 _ rfl; have hr4 := (boxed hix) 4 _ rfl
          have hf0 := boxed_frozen hix 0; have hf1 := boxed_frozen hix 1; have hf2 := boxed_frozen hix 2; have hf3 := boxed_frozen hix 3; have hf4 := boxed_frozen hix 4
          go_simp
          have hgr := put5_grown wx gi 0 (.bool (signedT (atomT [120]) (zeroL 32) (zeroL 64)).list) (.bool (signedT (atomT [120]) (zeroL 32) (zeroL 64)).hinted) (.slice eA1 en1 ec1) (.slice eA2 en2 ec2) (.slice eA3 en3 ec3)
          have hnw := put5_box hix 0 (.bool (signedT (atomT [120]) (zeroL 32) (zeroL 64)).list) (.bool (signedT (atomT [120]) (zeroL 32) (zeroL 64)).hinted) (.slice eA1 en1 ec1) (.slice eA2 en2 ec2) (.slice eA3 en3 ec3)
          clear hr0 hr1 hr2 hr3 hr4 hf0 hf1 hf2 hf3 hf4 hix
          (try have pe := pe.farS hgr (by intro b hb; first | omega | (simp only [false_or] at hb; omega)))
          (try have hix := box_grown hix hgr (by simp <;> omega))
          have HX := Lib.hid (HX.out.grown hgr (by omega) fun k hk => by injection hk; omega)
          have hz := hgr.size
          have hix := hnw
          clear hgr hnw
          refine hK.out _ _ (fun _ => trivial) ?_
          clear hK K
          (try simp only [List.getElem_toArray, List.getElem_cons_zero, List.getElem_cons_succ, Act.put, List.setIfInBounds_toArray, List.set_cons_zero, List.set_cons_succ])
          generalize hpq : put5 wx gi 0 (.bool (signedT (atomT [120]) (zeroL 32) (zeroL 64)).list) (.bool (signedT (atomT [120]) (zeroL 32) (zeroL 64)).hinted) (.slice eA1 en1 ec1) (.slice eA2 en2 ec2) (.slice eA3 en3 ec3) = w8 at *
          unfold put5 at hpq
          rw [hpq]
          clear hpq
          refine wpAnyD_take (i := 10) (v := ?_) rfl (by kernel_rfl) (by kernel_rfl) (by kernel_rfl) (by kernel_rfl) (fun _ _ _ h => by first | exact h | cases h.1) (by rfl) (by kernel_rfl) (Or.inl ⟨by rfl, ?_⟩) (by first | exact HS.out | exact hS | exact hdx | exact ⟨hdx, hkx⟩) ?_
          rotate_left
          · (intro w' hw'; (try dsimp only at hw'); skip; go_simp; first | done | with_reducible rfl)
          (try simp only [List.getElem_toArray, List.getElem_cons_zero, List.getElem_cons_succ, Act.put, List.setIfInBounds_toArray, List.set_cons_zero, List.set_cons_succ])
          refine wpAnyD_done (by kernel_rfl) ?_ _
          go_wp2_with fail
          go_meet
          exact ⟨gi, _, _, _, _, _, _, _, _, _, rfl, rfl, pe.more (by intro b hb; omega), hix, HX.out⟩
      · obtain ⟨w1, hrun0, hsl0, hB⟩ := make_u8 TB wx 32 (by decide)
        have hrun : Sem.run _ (Instr.makeSlice 22 (Value.int IntKind.i64 32) (Value.int IntKind.i64 32)) wx = _ := hrun0
        go_simp
        (try have hix := box_below hix hB (Array.getElem?_eq_some_iff.1 hix).1)
        have HX := Lib.hid (below_then HX.out hB)
        have hz := hB.size
        have HE := Lib.hid hsl0
        clear hB hrun hrun0 hsl0
        generalize hgg1 : wx.heap.size = g1 at *
        generalize w1 = wx at *
        refine hK.out _ _ (fun _ => trivial) ?_
        clear hK K
        (try simp only [List.getElem_toArray, List.getElem_cons_zero, List.getElem_cons_succ, Act.put, List.setIfInBounds_toArray, List.set_cons_zero, List.set_cons_succ])
        refine wpAnyD_all (rs := [0, 2]) (by kernel_rfl) (by simp) (AllD.cons rfl (by rfl) (fun K hK => ?_) (AllD.cons rfl (by rfl) (fun K hK => ?_) AllD.nil))
        · go_simp
          refine Calls.mono (atomref_c [120] _ _ (Nat.le_refl _) (by decide)) ?_
          rintro e wx ⟨aA1, an1, ac1, aA2, an2, ac2, aA3, an3, ac3, rfl, hq, hB⟩
          (try have HE := Lib.hid (slKeepS HE.out hB (by intro b hb; first | omega | (simp only [false_or] at hb; omega))))
          (try have hix := box_below hix hB (Array.getElem?_eq_some_iff.1 hix).1)
          have HX := Lib.hid (below_then HX.out hB)
          have hz := hB.size
          have pa := hq
          clear hq hB
          (try simp only [treeV])
          refine hK.out _ _ (fun _ => trivial) ?_
          clear hK K
          (try simp only [List.getElem_toArray, List.getElem_cons_zero, List.getElem_cons_succ, Act.put, List.setIfInBounds_toArray, List.set_cons_zero, List.set_cons_succ])
          refine wpAnyD_all (rs := [2]) (by kernel_rfl) (by simp) (AllD.cons rfl (by rfl) (fun K hK => ?_) AllD.nil)
          obtain ⟨w1, hrun0, hsl0, hB⟩ := make_u8 TB wx 64 (by decide)
          have hrun : Sem.run _ (Instr.makeSlice 22 (Value.int IntKind.i64 64) (Value.int IntKind.i64 64)) wx = _ := hrun0
          go_simp
          (try have pa := pa.keepS hB (by intro b hb; first | omega | (simp only [false_or] at hb; omega)))
          (try have HE := Lib.hid (slKeepS HE.out hB (by intro b hb; first | omega | (simp only [false_or] at hb; omega))))
          (try have hix := box_below hix hB (Array.getElem?_eq_some_iff.1 hix).1)
          have HX := Lib.hid (below_then HX.out hB)
          have hz := hB.size
          have HL := Lib.hid hsl0
          clear hB hrun hrun0 hsl0
          generalize hgg2 : wx.heap.size = g2 at *
          generalize w1 = wx at *
          refine hK.out _ _ (fun _ => trivial) ?_
          clear hK K
          (try simp only [List.getElem_toArray, List.getElem_cons_zero, List.getElem_cons_succ, Act.put, List.setIfInBounds_toArray, List.set_cons_zero, List.set_cons_succ])
          refine wpAnyD_take (i := 3) (v := ?_) rfl (by kernel_rfl) (by kernel_rfl) (by kernel_rfl) (by kernel_rfl) (fun _ _ _ h => by first | exact h | cases h.1) (by rfl) (by kernel_rfl) (Or.inl ⟨by rfl, ?_⟩) (by first | exact HS.out | exact hS | exact hdx | exact ⟨hdx, hkx⟩) ?_
          rotate_left
          · (intro w' hw'; (try dsimp only at hw'); skip; go_simp; first | done | with_reducible rfl)
          (try simp only [List.getElem_toArray, List.getElem_cons_zero, List.getElem_cons_succ, Act.put, List.setIfInBounds_toArray, List.set_cons_zero, List.set_cons_succ])
          refine wpAnyD_all (rs := [4]) (by kernel_rfl) (by simp) (AllD.cons rfl (by rfl) (fun K hK => ?_) AllD.nil)
          go_simp
          refine Calls.mono (sput_c (atomT [120]) (zeroL 32) (zeroL 64) _ _ (Nat.le_refl _) _ _ _ _ _ _ _ _ _ _ _ _ _ _ _ (pa.more (by intro b hb; omega)) (Rep.sl_more HE.out (by intro b hb; omega)) (Rep.sl_more HL.out (by intro b hb; omega)) (HTT.out.next HX.out) (by rw [atomT_wt]; decide) (by decide) (by decide)) ?_
          rintro e wx ⟨eA1, en1, ec1, eA2, en2, ec2, eA3, en3, ec3, rfl, hq, hB⟩
          (try have pa := pa.keepS hB (by intro b hb; first | omega | (simp only [false_or] at hb; omega)))
          (try have HE := Lib.hid (slKeepS HE.out hB (by intro b hb; first | omega | (simp only [false_or] at hb; omega))))
          (try have HL := Lib.hid (slKeepS HL.out hB (by intro b hb; first | omega | (simp only [false_or] at hb; omega))))
          (try have hix := box_below hix hB (Array.getElem?_eq_some_iff.1 hix).1)
          have HX := Lib.hid (below_then HX.out hB)
          have hz := hB.size
          have pe := hq
          clear hq hB
          (try simp only [treeV])
          (rw [HO.out.1, HO.out.2] at *)
          refine hK.out _ _ (fun _ => trivial) ?_
          clear hK K
          (try simp only [List.getElem_toArray, List.getElem_cons_zero, List.getElem_cons_succ, Act.put, List.setIfInBounds_toArray, List.set_cons_zero, List.set_cons_succ])
          refine wpAnyD_take (i := 5) (v := ?_) rfl (by kernel_rfl) (by kernel_rfl) (by kernel_rfl) (by kernel_rfl) (fun _ _ _ h => by first | exact h | cases h.1) (by rfl) (by kernel_rfl) (Or.inl ⟨by rfl, ?_⟩) (by first | exact HS.out | exact hS | exact hdx | exact ⟨hdx, hkx⟩) ?_
          rotate_left
          · (intro w' hw'; (try dsimp only at hw'); skip; go_simp; first | done | with_reducible rfl)
          (try simp only [List.getElem_toArray, List.getElem_cons_zero, List.getElem_cons_succ, Act.put, List.setIfInBounds_toArray, List.set_cons_zero, List.set_cons_succ])
          refine wpAnyD_take (i := 6) (v := ?_) rfl (by kernel_rfl) (by kernel_rfl) (by kernel_rfl) (by kernel_rfl) (fun _ _ _ h => by first | exact h | cases h.1) (by rfl) (by kernel_rfl) (Or.inl ⟨by rfl, ?_⟩) (by first | exact HS.out | exact hS | exact hdx | exact ⟨hdx, hkx⟩) ?_
          rotate_left
          · (intro w' hw'; (try dsimp only at hw'); skip; go_simp; first | done | with_reducible rfl)
          (try simp only [List.getElem_toArray, List.getElem_cons_zero, List.getElem_cons_succ, Act.put, List.setIfInBounds_toArray, List.set_cons_zero, List.set_cons_succ])
          refine wpAnyD_take (i := 7) (v := ?_) rfl (by kernel_rfl) (by kernel_rfl) (by kernel_rfl) (by kernel_rfl) (fun _ _ _ h => by first | exact h | cases h.1) (by rfl) (by kernel_rfl) (Or.inl ⟨by rfl, ?_⟩) (by first | exact HS.out | exact hS | exact hdx | exact ⟨hdx, hkx⟩) ?_
          rotate_left
          · (intro w' hw'; (try dsimp only at hw'); skip; go_simp; first | done | with_reducible rfl)
          (try simp only [List.getElem_toArray, List.getElem_cons_zero, List.getElem_cons_succ, Act.put, List.setIfInBounds_toArray, List.set_cons_zero, List.set_cons_succ])
          refine wpAnyD_all (rs := [9]) (by kernel_rfl) (by simp) (AllD.cons rfl (by rfl) (fun K hK => ?_) AllD.nil)
          have hr0 := (boxed hix) 0 _ rfl; have hr1 := (boxed hix) 1 _ rfl; have hr2 := (boxed hix) 2 _ rfl; have hr3 := (boxed hix) 3 _ rfl; have hr4 := (boxed hix) 4 _ rfl
          have hf0 := boxed_frozen hix 0; have hf1 := boxed_frozen hix 1; have hf2 := boxed_frozen hix 2; have hf3 := boxed_frozen hix 3; have hf4 := boxed_frozen hix 4
          go_simp
          have hgr := put5_grown wx gi 0 (.bool (signedT (atomT [120]) (zeroL 32) (zeroL 64)).list) (.bool (signedT (atomT [120]) (zeroL 32) (zeroL 64)).hinted) (.slice eA1 en1 ec1) (.slice eA2 en2 ec2) (.slice eA3 en3 ec3)
          have hnw := put5_box hix 0 (.bool (signedT (atomT [120]) (zeroL 32) (zeroL 64)).list) (.bool (signedT (atomT [120]) (zeroL 32) (zeroL 64)).hinted) (.slice eA1 en1 ec1) (.slice eA2 en2 ec2) (.slice eA3 en3 ec3)
          clear hr0 hr1 hr2 hr3 hr4 hf0 hf1 hf2 hf3 hf4 hix
          (try have pe := pe.farS hgr (by intro b hb; first | omega | (simp only [false_or] at hb; omega)))
          (try have hix := box_grown hix hgr (by simp <;> omega))
          have HX := Lib.hid (HX.out.grown hgr (by omega) fun k hk => by injection hk; omega)
          have hz := hgr.size
          have hix := hnw
          clear hgr hnw
          refine hK.out _ _ (fun _ => trivial) ?_
          clear hK K
          (try simp only [List.getElem_toArray, List.getElem_cons_zero, List.getElem_cons_succ, Act.put, List.setIfInBounds_toArray, List.set_cons_zero, List.set_cons_succ])
          generalize hpq : put5 wx gi 0 (.bool (signedT (atomT [120]) (zeroL 32) (zeroL 64)).list) (.bool (signedT (atomT [120]) (zeroL 32) (zeroL 64)).hinted) (.slice eA1 en1 ec1) (.slice eA2 en2 ec2) (.slice eA3 en3 ec3) = w8 at *
          unfold put5 at hpq
          rw [hpq]
          clear hpq
          refine wpAnyD_take (i := 10) (v := ?_) rfl (by kernel_rfl) (by kernel_rfl) (by kernel_rfl) (by kernel_rfl) (fun _ _ _ h => by first | exact h | cases h.1) (by rfl) (by kernel_rfl) (Or.inl ⟨by rfl, ?_⟩) (by first | exact HS.out | exact hS | exact hdx | exact ⟨hdx, hkx⟩) ?_
          rotate_left
          · (intro w' hw'; (try dsimp only at hw'); skip; go_simp; first | done | with_reducible rfl)
          (try simp only [List.getElem_toArray, List.getElem_cons_zero, List.getElem_cons_succ, Act.put, List.setIfInBounds_toArray, List.set_cons_zero, List.set_cons_succ])
          refine wpAnyD_done (by kernel_rfl) ?_ _
          go_wp2_with fail
          go_meet
          exact ⟨gi, _, _, _, _, _, _, _, _, _, rfl, rfl, pe.more (by intro b hb; omega), hix, HX.out⟩
        · obtain ⟨w1, hrun0, hsl0, hB⟩ := make_u8 TB wx 64 (by decide)
          have hrun : Sem.run _ (Instr.makeSlice 22 (Value.int IntKind.i64 64) (Value.int IntKind.i64 64)) wx = _ := hrun0
          go_simp
          (try have HE := Lib.hid (slKeepS HE.out hB (by intro b hb; first | omega | (simp only [false_or] at hb; omega))))
          (try have hix := box_below hix hB (Array.getElem?_eq_some_iff.1 hix).1)
          have HX := Lib.hid (below_then HX.out hB)
          have hz := hB.size
          have HL := Lib.hid hsl0
          clear hB hrun hrun0 hsl0
          generalize hgg2 : wx.heap.size = g2 at *
          generalize w1 = wx at *
          refine hK.out _ _ (fun _ => trivial) ?_
          clear hK K
          (try simp only [List.getElem_toArray, List.getElem_cons_zero, List.getElem_cons_succ, Act.put, List.setIfInBounds_toArray, List.set_cons_zero, List.set_cons_succ])
          refine wpAnyD_all (rs := [0]) (by kernel_rfl) (by simp) (AllD.cons rfl (by rfl) (fun K hK => ?_) AllD.nil)
          go_simp
          refine Calls.mono (atomref_c [120] _ _ (Nat.le_refl _) (by decide)) ?_
          rintro e wx ⟨aA1, an1, ac1, aA2, an2, ac2, aA3, an3, ac3, rfl, hq, hB⟩
          (try have HE := Lib.hid (slKeepS HE.out hB (by intro b hb; first | omega | (simp only [false_or] at hb; omega))))
          (try have HL := Lib.hid (slKeepS HL.out hB (by intro b hb; first | omega | (simp only [false_or] at hb; omega))))
          (try have hix := box_below hix hB (Array.getElem?_eq_some_iff.1 hix).1)
          have HX := Lib.hid (below_then HX.out hB)
          have hz := hB.size
          have pa := hq
          clear hq hB
          (try simp only [treeV])
          refine hK.out _ _ (fun _ => trivial) ?_
          clear hK K
          (try simp only [List.getElem_toArray, List.getElem_cons_zero, List.getElem_cons_succ, Act.put, List.setIfInBounds_toArray, List.set_cons_zero, List.set_cons_succ])
          refine wpAnyD_take (i := 3) (v := ?_) rfl (by kernel_rfl) (by kernel_rfl) (by kernel_rfl) (by kernel_rfl) (fun _ _ _ h => by first | exact h | cases h.1) (by rfl) (by kernel_rfl) (Or.inl ⟨by rfl, ?_⟩) (by first | exact HS.out | exact hS | exact hdx | exact ⟨hdx, hkx⟩) ?_
          rotate_left
          · (intro w' hw'; (try dsimp only at hw'); skip; go_simp; first | done | with_reducible rfl)
          (try simp only [List.getElem_toArray, List.getElem_cons_zero, List.getElem_cons_succ, Act.put, List.setIfInBounds_toArray, List.set_cons_zero, List.set_cons_succ])
          refine wpAnyD_all (rs := [4]) (by kernel_rfl) (by simp) (AllD.cons rfl (by rfl) (fun K hK => ?_) AllD.nil)
          go_simp
          refine Calls.mono (sput_c (atomT [120]) (zeroL 32) (zeroL 64) _ _ (Nat.le_refl _) _ _ _ _ _ _ _ _ _ _ _ _ _ _ _ (pa.more (by intro b hb; omega)) (Rep.sl_more HE.out (by intro b hb; omega)) (Rep.sl_more HL.out (by intro b hb; omega)) (HTT.out.next HX.out) (by rw [atomT_wt]; decide) (by decide) (by decide)) ?_
          rintro e wx ⟨eA1, en1, ec1, eA2, en2, ec2, eA3, en3, ec3, rfl, hq, hB⟩
          (try have pa := pa.keepS hB (by intro b hb; first | omega | (simp only [false_or] at hb; omega)))
          (try have HE := Lib.hid (slKeepS HE.out hB (by intro b hb; first | omega | (simp only [false_or] at hb; omega))))
          (try have HL := Lib.hid (slKeepS HL.out hB (by intro b hb; first | omega | (simp only [false_or] at hb; omega))))
          (try have hix := box_below hix hB (Array.getElem?_eq_some_iff.1 hix).1)
          have HX := Lib.hid (below_then HX.out hB)
          have hz := hB.size
          have pe := hq
          clear hq hB
          (try simp only [treeV])
          (rw [HO.out.1, HO.out.2] at *)
          refine hK.out _ _ (fun _ => trivial) ?_
          clear hK K
          (try simp only [List.getElem_toArray, List.getElem_cons_zero, List.getElem_cons_succ, Act.put, List.setIfInBounds_toArray, List.set_cons_zero, List.set_cons_succ])
          refine wpAnyD_take (i := 5) (v := ?_) rfl (by kernel_rfl) (by kernel_rfl) (by kernel_rfl) (by kernel_rfl) (fun _ _ _ h => by first | exact h | cases h.1) (by rfl) (by kernel_rfl) (Or.inl ⟨by rfl, ?_⟩) (by first | exact HS.out | exact hS | exact hdx | exact ⟨hdx, hkx⟩) ?_
          rotate_left
          · (intro w' hw'; (try dsimp only at hw'); skip; go_simp; first | done | with_reducible rfl)
          (try simp only [List.getElem_toArray, List.getElem_cons_zero, List.getElem_cons_succ, Act.put, List.setIfInBounds_toArray, List.set_cons_zero, List.set_cons_succ])
          refine wpAnyD_take (i := 6) (v := ?_) rfl (by kernel_rfl) (by kernel_rfl) (by kernel_rfl) (by kernel_rfl) (fun _ _ _ h => by first | exact h | cases h.1) (by rfl) (by kernel_rfl) (Or.inl ⟨by rfl, ?_⟩) (by first | exact HS.out | exact hS | exact hdx | exact ⟨hdx, hkx⟩) ?_
          rotate_left
          · (intro w' hw'; (try dsimp only at hw'); skip; go_simp; first | done | with_reducible rfl)
          (try simp only [List.getElem_toArray, List.getElem_cons_zero, List.getElem_cons_succ, Act.put, List.setIfInBounds_toArray, List.set_cons_zero, List.set_cons_succ])
          refine wpAnyD_take (i := 7) (v := ?_) rfl (by kernel_rfl) (by kernel_rfl) (by kernel_rfl) (by kernel_rfl) (fun _ _ _ h => by first | exact h | cases h.1) (by rfl) (by kernel_rfl) (Or.inl ⟨by rfl, ?_⟩) (by first | exact HS.out | exact hS | exact hdx | exact ⟨hdx, hkx⟩) ?_
          rotate_left
          · (intro w' hw'; (try dsimp only at hw'); skip; go_simp; first | done | with_reducible rfl)
          (try simp only [List.getElem_toArray, List.getElem_cons_zero, List.getElem_cons_succ, Act.put, List.setIfInBounds_toArray, List.set_cons_zero, List.set_cons_succ])
          refine wpAnyD_all (rs := [9]) (by kernel_rfl) (by simp) (AllD.cons rfl (by rfl) (fun K hK => ?_) AllD.nil)
          have hr0 := (boxed hix) 0 _ rfl; have hr1 := (boxed hix) 1 _ rfl; have hr2 := (boxed hix) 2 _ rfl; have hr3 := (boxed hix) 3 _ rfl; have hr4 := (boxed hix) 4 _ rfl
          have hf0 := boxed_frozen hix 0; have hf1 := boxed_frozen hix 1; have hf2 := boxed_frozen hix 2; have hf3 := boxed_frozen hix 3; have hf4 := boxed_frozen hix 4
          go_simp
          have hgr := put5_grown wx gi 0 (.bool (signedT (atomT [120]) (zeroL 32) (zeroL 64)).list) (.bool (signedT (atomT [120]) (zeroL 32) (zeroL 64)).hinted) (.slice eA1 en1 ec1) (.slice eA2 en2 ec2) (.slice eA3 en3 ec3)
          have hnw := put5_box hix 0 (.bool (signedT (atomT [120]) (zeroL 32) (zeroL 64)).list) (.bool (signedT (atomT [120]) (zeroL 32) (zeroL 64)).hinted) (.slice eA1 en1 ec1) (.slice eA2 en2 ec2) (.slice eA3 en3 ec3)
          clear hr0 hr1 hr2 hr3 hr4 hf0 hf1 hf2 hf3 hf4 hix
          (try have pe := pe.farS hgr (by intro b hb; first | omega | (simp only [false_or] at hb; omega)))
          (try have hix := box_grown hix hgr (by simp <;> omega))
          have HX := Lib.hid (HX.out.grown hgr (by omega) fun k hk => by injection hk; omega)
          have hz := hgr.size
          have hix := hnw
          clear hgr hnw
          refine hK.out _ _ (fun _ => trivial) ?_
          clear hK K
          (try simp only [List.getElem_toArray, List.getElem_cons_zero, List.getElem_cons_succ, Act.put, List.setIfInBounds_toArray, List.set_cons_zero, List.set_cons_succ])
          generalize hpq : put5 wx gi 0 (.bool (signedT (atomT [120]) (zeroL 32) (zeroL 64)).list) (.bool (signedT (atomT [120]) (zeroL 32) (zeroL 64)).hinted) (.slice eA1 en1 ec1) (.slice eA2 en2 ec2) (.slice eA3 en3 ec3) = w8 at *
          unfold put5 at hpq
          rw [hpq]
          clear hpq
          refine wpAnyD_take (i := 10) (v := ?_) rfl (by kernel_rfl) (by kernel_rfl) (by kernel_rfl) (by kernel_rfl) (fun _ _ _ h => by first | exact h | cases h.1) (by rfl) (by kernel_rfl) (Or.inl ⟨by rfl, ?_⟩) (by first | exact HS.out | exact hS | exact hdx | exact ⟨hdx, hkx⟩) ?_
          rotate_left
          · (intro w' hw'; (try dsimp only at hw'); skip; go_simp; first | done | with_reducible rfl)
          (try simp only [List.getElem_toArray, List.getElem_cons_zero, List.getElem_cons_succ, Act.put, List.setIfInBounds_toArray, List.set_cons_zero, List.set_cons_succ])
          refine wpAnyD_done (by kernel_rfl) ?_ _
          go_wp2_with fail
          go_meet
          exact ⟨gi, _, _, _, _, _, _, _, _, _, rfl, rfl, pe.more (by intro b hb; omega), hix, HX.out⟩
      · obtain ⟨w1, hrun0, hsl0, hB⟩ := make_u8 TB wx 64 (by decide)
        have hrun : Sem.run _ (Instr.makeSlice 22 (Value.int IntKind.i64 64) (Value.int IntKind.i64 64)) wx = _ := hrun0
        go_simp
        (try have hix := box_below hix hB (Array.getElem?_eq_some_iff.1 hix).1)
        have HX := Lib.hid (below_then HX.out hB)
        have hz := hB.size
        have HL := Lib.hid hsl0
        clear hB hrun hrun0 hsl0
        generalize hgg2 : wx.heap.size = g2 at *
        generalize w1 = wx at *
        refine hK.out _ _ (fun _ => trivial) ?_
        clear hK K
        (try simp only [List.getElem_toArray, List.getElem_cons_zero, List.getElem_cons_succ, Act.put, List.setIfInBounds_toArray, List.set_cons_zero, List.set_cons_succ])
        refine wpAnyD_all (rs := [0, 1]) (by kernel_rfl) (by simp) (AllD.cons rfl (by rfl) (fun K hK => ?_) (AllD.cons rfl (by rfl) (fun K hK => ?_) AllD.nil))
        · go_simp
          refine Calls.mono (atomref_c [120] _ _ (Nat.le_refl _) (by decide)) ?_
          rintro e wx ⟨aA1, an1, ac1, aA2, an2, ac2, aA3, an3, ac3, rfl, hq, hB⟩
          (try have HL := Lib.hid (slKeepS HL.out hB (by intro b hb; first | omega | (simp only [false_or] at hb; omega))))
          (try have hix := box_below hix hB (Array.getElem?_eq_some_iff.1 hix).1)
          have HX := Lib.hid (below_then HX.out hB)
          have hz := hB.size
          have pa := hq
          clear hq hB
          (try simp only [treeV])
          refine hK.out _ _ (fun _ => trivial) ?_
          clear hK K
          (try simp only [List.getElem_toArray, List.getElem_cons_zero, List.getElem_cons_succ, Act.put, List.setIfInBounds_toArray, List.set_cons_zero, List.set_cons_succ])
          refine wpAnyD_all (rs := [1]) (by kernel_rfl) (by simp) (AllD.cons rfl (by rfl) (fun K hK => ?_) AllD.nil)
          obtain ⟨w1, hrun0, hsl0, hB⟩ := make_u8 TB wx 32 (by decide)
          have hrun : Sem.run _ (Instr.makeSlice 22 (Value.int IntKind.i64 32) (Value.int IntKind.i64 32)) wx = _ := hrun0
          go_simp
          (try have pa := pa.keepS hB (by intro b hb; first | omega | (simp only [false_or] at hb; omega)))
          (try have HL := Lib.hid (slKeepS HL.out hB (by intro b hb; first | omega | (simp only [false_or] at hb; omega))))
          (try have hix := box_below hix hB (Array.getElem?_eq_some_iff.1 hix).1)
          have HX := Lib.hid (below_then HX.out hB)
          have hz := hB.size
          have HE := Lib.hid hsl0
          clear hB hrun hrun0 hsl0
          generalize hgg1 : wx.heap.size = g1 at *
          generalize w1 = wx at *
          refine hK.out _ _ (fun _ => trivial) ?_
          clear hK K
          (try simp only [List.getElem_toArray, List.getElem_cons_zero, List.getElem_cons_succ, Act.put, List.setIfInBounds_toArray, List.set_cons_zero, List.set_cons_succ])
          refine wpAnyD_take (i := 3) (v := ?_) rfl (by kernel_rfl) (by kernel_rfl) (by kernel_rfl) (by kernel_rfl) (fun _ _ _ h => by first | exact h | cases h.1) (by rfl) (by kernel_rfl) (Or.inl ⟨by rfl, ?_⟩) (by first | exact HS.out | exact hS | exact hdx | exact ⟨hdx, hkx⟩) ?_
          rotate_left
          · (intro w' hw'; (try dsimp only at hw'); skip; go_simp; first | done | with_reducible rfl)
          (try simp only [List.getElem_toArray, List.getElem_cons_zero, List.getElem_cons_succ, Act.put, List.setIfInBounds_toArray, List.set_cons_zero, List.set_cons_succ])
          refine wpAnyD_all (rs := [4]) (by kernel_rfl) (by simp) (AllD.cons rfl (by rfl) (fun K hK => ?_) AllD.nil)
          go_simp
          refine Calls.mono (sput_c (atomT [120]) (zeroL 32) (zeroL 64) _ _ (Nat.le_refl _) _ _ _ _ _ _ _ _ _ _ _ _ _ _ _ (pa.more (by intro b hb; omega)) (Rep.sl_more HE.out (by intro b hb; omega)) (Rep.sl_more HL.out (by intro b hb; omega)) (HTT.out.next HX.out) (by rw [atomT_wt]; decide) (by decide) (by decide)) ?_
          rintro e wx ⟨eA1, en1, ec1, eA2, en2, ec2, eA3, en3, ec3, rfl, hq, hB⟩
          (try have pa := pa.keepS hB (by intro b hb; first | omega | (simp only [false_or] at hb; omega)))
          (try have HE := Lib.hid (slKeepS HE.out hB (by intro b hb; first | omega | (simp only [false_or] at hb; omega))))
          (try have HL := Lib.hid (slKeepS HL.out hB (by intro b hb; first | omega | (simp only [false_or] at hb; omega))))
          (try have hix := box_below hix hB (Array.getElem?_eq_some_iff.1 hix).1)
          have HX := Lib.hid (below_then HX.out hB)
          have hz := hB.size
          have pe := hq
          clear hq hB
          (try simp only [treeV])
          (rw [HO.out.1, HO.out.2] at *)
          refine hK.out _ _ (fun _ => trivial) ?_
          clear hK K
          (try simp only [List.getElem_toArray, List.getElem_cons_zero, List.getElem_cons_succ, Act.put, List.setIfInBounds_toArray, List.set_cons_zero, List.set_cons_succ])
          refine wpAnyD_take (i := 5) (v := ?_) rfl (by kernel_rfl) (by kernel_rfl) (by kernel_rfl) (by kernel_rfl) (fun _ _ _ h => by first | exact h | cases h.1) (by rfl) (by kernel_rfl) (Or.inl ⟨by rfl, ?_⟩) (by first | exact HS.out | exact hS | exact hdx | exact ⟨hdx, hkx⟩) ?_
          rotate_left
          · (intro w' hw'; (try dsimp only at hw'); skip; go_simp; first | done | with_reducible rfl)
          (try simp only [List.getElem_toArray, List.getElem_cons_zero, List.getElem_cons_succ, Act.put, List.setIfInBounds_toArray, List.set_cons_zero, List.set_cons_succ])
          refine wpAnyD_take (i := 6) (v := ?_) rfl (by kernel_rfl) (by kernel_rfl) (by kernel_rfl) (by kernel_rfl) (fun _ _ _ h => by first | exact h | cases h.1) (by rfl) (by kernel_rfl) (Or.inl ⟨by rfl, ?_⟩) (by first | exact HS.out | exact hS | exact hdx | exact ⟨hdx, hkx⟩) ?_
          rotate_left
          · (intro w' hw'; (try dsimp only at hw'); skip; go_simp; first | done | with_reducible rfl)
          (try simp only [List.getElem_toArray, List.getElem_cons_zero, List.getElem_cons_succ, Act.put, List.setIfInBounds_toArray, List.set_cons_zero, List.set_cons_succ])
          refine wpAnyD_take (i := 7) (v := ?_) rfl (by kernel_rfl) (by kernel_rfl) (by kernel_rfl) (by kernel_rfl) (fun _ _ _ h => by first | exact h | cases h.1) (by rfl) (by kernel_rfl) (Or.inl ⟨by rfl, ?_⟩) (by first | exact HS.out | exact hS | exact hdx | exact ⟨hdx, hkx⟩) ?_
          rotate_left
          · (intro w' hw'; (try dsimp only at hw'); skip; go_simp; first | done | with_reducible rfl)
          (try simp only [List.getElem_toArray, List.getElem_cons_zero, List.getElem_cons_succ, Act.put, List.setIfInBounds_toArray, List.set_cons_zero, List.set_cons_succ])
          refine wpAnyD_all (rs := [9]) (by kernel_rfl) (by simp) (AllD.cons rfl (by rfl) (fun K hK => ?_) AllD.nil)
          have hr0 := (boxed hix) 0 _ rfl; have hr1 := (boxed hix) 1 _ rfl; have hr2 := (boxed hix) 2 _ rfl; have hr3 := (boxed hix) 3 _ rfl; have hr4 := (boxed hix) 4 _ rfl
          have hf0 := boxed_frozen hix 0; have hf1 := boxed_frozen hix 1; have hf2 := boxed_frozen hix 2; have hf3 := boxed_frozen hix 3; have hf4 := boxed_frozen hix 4
          go_simp
          have hgr := put5_grown wx gi 0 (.bool (signedT (atomT [120]) (zeroL 32) (zeroL 64)).list) (.bool (signedT (atomT [120]) (zeroL 32) (zeroL 64)).hinted) (.slice eA1 en1 ec1) (.slice eA2 en2 ec2) (.slice eA3 en3 ec3)
          have hnw := put5_box hix 0 (.bool (signedT (atomT [120]) (zeroL 32) (zeroL 64)).list) (.bool (signedT (atomT [120]) (zeroL 32) (zeroL 64)).hinted) (.slice eA1 en1 ec1) (.slice eA2 en2 ec2) (.slice eA3 en3 ec3)
          clear hr0 hr1 hr2 hr3 hr4 hf0 hf1 hf2 hf3 hf4 hix
          (try have pe := pe.farS hgr (by intro b hb; first | omega | (simp only [false_or] at hb; omega)))
          (try have hix := box_grown hix hgr (by simp <;> omega))
          have HX := Lib.hid (HX.out.grown hgr (by omega) fun k hk => by injection hk; omega)
          have hz := hgr.size
          have hix := hnw
          clear hgr hnw
          refine hK.out _ _ (fun _ => trivial) ?_
          clear hK K
          (try simp only [List.getElem_toArray, List.getElem_cons_zero, List.getElem_cons_succ, Act.put, List.setIfInBounds_toArray, List.set_cons_zero, List.set_cons_succ])
          generalize hpq : put5 wx gi 0 (.bool (signedT (atomT [120]) (zeroL 32) (zeroL 64)).list) (.bool (signedT (atomT [120]) (zeroL 32) (zeroL 64)).hinted) (.slice eA1 en1 ec1) (.slice eA2 en2 ec2) (.slice eA3 en3 ec3) = w8 at *
          unfold put5 at hpq
          rw [hpq]
          clear hpq
          refine wpAnyD_take (i := 10) (v := ?_) rfl (by kernel_rfl) (by kernel_rfl) (by kernel_rfl) (by kernel_rfl) (fun _ _ _ h => by first | exact h | cases h.1) (by rfl) (by kernel_rfl) (Or.inl ⟨by rfl, ?_⟩) (by first | exact HS.out | exact hS | exact hdx | exact ⟨hdx, hkx⟩) ?_
          rotate_left
          · (intro w' hw'; (try dsimp only at hw'); skip; go_simp; first | done | with_reducible rfl)
          (try simp only [List.getElem_toArray, List.getElem_cons_zero, List.getElem_cons_succ, Act.put, List.setIfInBounds_toArray, List.set_cons_zero, List.set_cons_succ])
          refine wpAnyD_done (by kernel_rfl) ?_ _
          go_wp2_with fail
          go_meet
          exact ⟨gi, _, _, _, _, _, _, _, _, _, rfl, rfl, pe.more (by intro b hb; omega), hix, HX.out⟩
        · obtain ⟨w1, hrun0, hsl0, hB⟩ := make_u8 TB wx 32 (by decide)
          have hrun : Sem.run _ (Instr.makeSlice 22 (Value.int IntKind.i64 32) (Value.int IntKind.i64 32)) wx = _ := hrun0
          go_simp
          (try have HL := Lib.hid (slKeepS HL.out hB (by intro b hb; first | omega | (simp only [false_or] at hb; omega))))
          (try have hix := box_below hix hB (Array.getElem?_eq_some_iff.1 hix).1)
          have HX := Lib.hid (below_then HX.out hB)
          have hz := hB.size
          have HE := Lib.hid hsl0
          clear hB hrun hrun0 hsl0
          generalize hgg1 : wx.heap.size = g1 at *
          generalize w1 = wx at *
          refine hK.out _ _ (fun _ => trivial) ?_
          clear hK K
          (try simp only [List.getElem_toArray, List.getElem_cons_zero, List.getElem_cons_succ, Act.put, List.setIfInBounds_toArray, List.set_cons_zero, List.set_cons_succ])
          refine wpAnyD_all (rs := [0]) (by kernel_rfl) (by simp) (AllD.cons rfl (by rfl) (fun K hK => ?_) AllD.nil)
          go_simp
          refine Calls.mono (atomref_c [120] _ _ (Nat.le_refl _) (by decide)) ?_
          rintro e wx ⟨aA1, an1, ac1, aA2, an2, ac2, aA3, an3, ac3, rfl, hq, hB⟩
          (try have HE := Lib.hid (slKeepS HE.out hB (by intro b hb; first | omega | (simp only [false_or] at hb; omega))))
          (try have HL := Lib.hid (slKeepS HL.out hB (by intro b hb; first | omega | (simp only [false_or] at hb; omega))))
          (try have hix := box_below hix hB (Array.getElem?_eq_some_iff.1 hix).1)
          have HX := Lib.hid (below_then HX.out hB)
          have hz := hB.size
          have pa := hq
          clear hq hB
          (try simp only [treeV])
          refine hK.out _ _ (fun _ => trivial) ?_
          clear hK K
          (try simp only [List.getElem_toArray, List.getElem_cons_zero, List.getElem_cons_succ, Act.put, List.setIfInBounds_toArray, List.set_cons_zero, List.set_cons_succ])
          refine wpAnyD_take (i := 3) (v := ?_) rfl (by kernel_rfl) (by kernel_rfl) (by kernel_rfl) (by kernel_rfl) (fun _ _ _ h => by first | exact h | cases h.1) (by rfl) (by kernel_rfl) (Or.inl ⟨by rfl, ?_⟩) (by first | exact HS.out | exact hS | exact hdx | exact ⟨hdx, hkx⟩) ?_
          rotate_left
          · (intro w' hw'; (try dsimp only at hw'); skip; go_simp; first | done | with_reducible rfl)
          (try simp only [List.getElem_toArray, List.getElem_cons_zero, List.getElem_cons_succ, Act.put, List.setIfInBounds_toArray, List.set_cons_zero, List.set_cons_succ])
          refine wpAnyD_all (rs := [4]) (by kernel_rfl) (by simp) (AllD.cons rfl (by rfl) (fun K hK => ?_) AllD.nil)
          go_simp
          refine Calls.mono (sput_c (atomT [120]) (zeroL 32) (zeroL 64) _ _ (Nat.le_refl _) _ _ _ _ _ _ _ _ _ _ _ _ _ _ _ (pa.more (by intro b hb; omega)) (Rep.sl_more HE.out (by intro b hb; omega)) (Rep.sl_more HL.out (by intro b hb; omega)) (HTT.out.next HX.out) (by rw [atomT_wt]; decide) (by decide) (by decide)) ?_
          rintro e wx ⟨eA1, en1, ec1, eA2, en2, ec2, eA3, en3, ec3, rfl, hq, hB⟩
          (try have pa := pa.keepS hB (by intro b hb; first | omega | (simp only [false_or] at hb; omega)))
          (try have HE := Lib.hid (slKeepS HE.out hB (by intro b hb; first | omega | (simp only [false_or] at hb; omega))))
          (try have HL := Lib.hid (slKeepS HL.out hB (by intro b hb; first | omega | (simp only [false_or] at hb; omega))))
          (try have hix := box_below hix hB (Array.getElem?_eq_some_iff.1 hix).1)
          have HX := Lib.hid (below_then HX.out hB)
          have hz := hB.size
          have pe := hq
          clear hq hB
          (try simp only [treeV])
          (rw [HO.out.1, HO.out.2] at *)
          refine hK.out _ _ (fun _ => trivial) ?_
          clear hK K
          (try simp only [List.getElem_toArray, List.getElem_cons_zero, List.getElem_cons_succ, Act.put, List.setIfInBounds_toArray, List.set_cons_zero, List.set_cons_succ])
          refine wpAnyD_take (i := 5) (v := ?_) rfl (by kernel_rfl) (by kernel_rfl) (by kernel_rfl) (by kernel_rfl) (fun _ _ _ h => by first | exact h | cases h.1) (by rfl) (by kernel_rfl) (Or.inl ⟨by rfl, ?_⟩) (by first | exact HS.out | exact hS | exact hdx | exact ⟨hdx, hkx⟩) ?_
          rotate_left
          · (intro w' hw'; (try dsimp only at hw'); skip; go_simp; first | done | with_reducible rfl)
          (try simp only [List.getElem_toArray, List.getElem_cons_zero, List.getElem_cons_succ, Act.put, List.setIfInBounds_toArray, List.set_cons_zero, List.set_cons_succ])
          refine wpAnyD_take (i := 6) (v := ?_) rfl (by kernel_rfl) (by kernel_rfl) (by kernel_rfl) (by kernel_rfl) (fun _ _ _ h => by first | exact h | cases h.1) (by rfl) (by kernel_rfl) (Or.inl ⟨by rfl, ?_⟩) (by first | exact HS.out | exact hS | exact hdx | exact ⟨hdx, hkx⟩) ?_
          rotate_left
          · (intro w' hw'; (try dsimp only at hw'); skip; go_simp; first | done | with_reducible rfl)
          (try simp only [List.getElem_toArray, List.getElem_cons_zero, List.getElem_cons_succ, Act.put, List.setIfInBounds_toArray, List.set_cons_zero, List.set_cons_succ])
          refine wpAnyD_take (i := 7) (v := ?_) rfl (by kernel_rfl) (by kernel_rfl) (by kernel_rfl) (by kernel_rfl) (fun _ _ _ h => by first | exact h | cases h.1) (by rfl) (by kernel_rfl) (Or.inl ⟨by rfl, ?_⟩) (by first | exact HS.out | exact hS | exact hdx | exact ⟨hdx, hkx⟩) ?_
          rotate_left
          · (intro w' hw'; (try dsimp only at hw'); skip; go_simp; first | done | with_reducible rfl)
          (try simp only [List.getElem_toArray, List.getElem_cons_zero, List.getElem_cons_succ, Act.put, List.setIfInBounds_toArray, List.set_cons_zero, List.set_cons_succ])
          refine wpAnyD_all (rs := [9]) (by kernel_rfl) (by simp) (AllD.cons rfl (by rfl) (fun K hK => ?_) AllD.nil)
          have hr0 := (boxed hix) 0 _ rfl; have hr1 := (boxed hix) 1 _ rfl; have hr2 := (boxed hix) 2 _ rfl; have hr3 := (boxed hix) 3 _ rfl; have hr4 := (boxed hix) 4 _ rfl
          have hf0 := boxed_frozen hix 0; have hf1 := boxed_frozen hix 1; have hf2 := boxed_frozen hix 2; have hf3 := boxed_frozen hix 3; have hf4 := boxed_frozen hix 4
          go_simp
          have hgr := put5_grown wx gi 0 (.bool (signedT (atomT [120]) (zeroL 32) (zeroL 64)).list) (.bool (signedT (atomT [120]) (zeroL 32) (zeroL 64)).hinted) (.slice eA1 en1 ec1) (.slice eA2 en2 ec2) (.slice eA3 en3 ec3)
          have hnw := put5_box hix 0 (.bool (signedT (atomT [120]) (zeroL 32) (zeroL 64)).list) (.bool (signedT (atomT [120]) (zeroL 32) (zeroL 64)).hinted) (.slice eA1 en1 ec1) (.slice eA2 en2 ec2) (.slice eA3 en3 ec3)
          clear hr0 hr1 hr2 hr3 hr4 hf0 hf1 hf2 hf3 hf4 hix
          (try have pe := pe.farS hgr (by intro b hb; first | omega | (simp only [false_or] at hb; omega)))
          (try have hix := box_grown hix hgr (by simp <;> omega))
          have HX := Lib.hid (HX.out.grown hgr (by omega) fun k hk => by injection hk; omega)
          have hz := hgr.size
          have hix := hnw
          clear hgr hnw
          refine hK.out _ _ (fun _ => trivial) ?_
          clear hK K
          (try simp only [List.getElem_toArray, List.getElem_cons_zero, List.getElem_cons_succ, Act.put, List.setIfInBounds_toArray, List.set_cons_zero, List.set_cons_succ])
          generalize hpq : put5 wx gi 0 (.bool (signedT (atomT [120]) (zeroL 32) (zeroL 64)).list) (.bool (signedT (atomT [120]) (zeroL 32) (zeroL 64)).hinted) (.slice eA1 en1 ec1) (.slice eA2 en2 ec2) (.slice eA3 en3 ec3) = w8 at *
          unfold put5 at hpq
          rw [hpq]
          clear hpq
          refine wpAnyD_take (i := 10) (v := ?_) rfl (by kernel_rfl) (by kernel_rfl) (by kernel_rfl) (by kernel_rfl) (fun _ _ _ h => by first | exact h | cases h.1) (by rfl) (by kernel_rfl) (Or.inl ⟨by rfl, ?_⟩) (by first | exact HS.out | exact hS | exact hdx | exact ⟨hdx, hkx⟩) ?_
          rotate_left
          · (intro w' hw'; (try dsimp only at hw'); skip; go_simp; first | done | with_reducible rfl)
          (try simp only [List.getElem_toArray, List.getElem_cons_zero, List.getElem_cons_succ, Act.put, List.setIfInBounds_toArray, List.set_cons_zero, List.set_cons_succ])
          refine wpAnyD_done (by kernel_rfl) ?_ _
          go_wp2_with fail
          go_meet
          exact ⟨gi, _, _, _, _, _, _, _, _, _, rfl, rfl, pe.more (by intro b hb; omega), hix, HX.out⟩
  case rest =>
    obtain ⟨gi, eA1, en1, ec1, eA2, en2, ec2, eA3, en3, ec3, rfl, rfl, HP, hix, HX⟩ := hcut
    have hn : en3 = 4 := HP.out.2.2.1.symm
    subst hn
    have q0 := (boxed hix) 0 _ rfl; have q1 := (boxed hix) 1 _ rfl; have q2 := (boxed hix) 2 _ rfl; have q3 := (boxed hix) 3 _ rfl; have q4 := (boxed hix) 4 _ rfl
    go_wp2_with fail
    refine Calls.mono (headref_c (signedT (atomT [120]) (zeroL 32) (zeroL 64)) tSigned _ _ HP.out.rd) ?_
    rintro e wx ⟨rfl, hB⟩
    rw [HH.out]
    have HX := Lib.hid (below_then HX.out hB)
    clear hB
    go_wp2
    go_ret
    exact ⟨rfl, HX.out⟩
end Go.Proofs.YtdakeodebgggfaaDoor
