/- The program's way of getting a principal. -/
import Derived.Test.YtdakeodebgggfaaDoorUg
import Derived.Deep.CutBlock
namespace Go.Proofs.YtdakeodebgggfaaDoor
open Go.RowKit
set_option linter.unusedVariables false
set_option linter.unusedSimpArgs false

/-- A principal in two cells. -/
def Rep.key : Rep (Bool × List UInt8) where
  size := 2
  pos := by omega
  rd := fun w S cs k => ∃ A n c, cs = [.bool k.1, .slice A n c] ∧ Rep.u8.sl w S A n c k.2
  len := fun h => by obtain ⟨_, _, _, rfl, _⟩ := h; rfl
  keep := fun h hk => by
    obtain ⟨A, n, c, rfl, h⟩ := h
    exact ⟨A, n, c, rfl, Rep.sl_keep h hk⟩
  more := fun h hS => by
    obtain ⟨A, n, c, rfl, h⟩ := h
    exact ⟨A, n, c, rfl, Rep.sl_more h hS⟩
  one := fun h u hu => by
    obtain ⟨A, n, c, rfl, h⟩ := h
    simp at hu
    rcases hu with rfl | rfl <;> rfl
theorem key_at {w : World} {S : Nat → Prop} {A : Option Addr} {n c k : Nat} {l : List (Bool × List UInt8)} (h : Rep.key.sl w S A n c l) (hk : k < n) :
    ∃ b o x B m d, A = some ⟨b, o, none⟩ ∧ S b ∧ l[k]? = some x ∧ Rep.u8.sl w S B m d x.2 ∧ w.cell? ⟨b, o + k * 2, none⟩ = some (.bool x.1) ∧ w.cell? ⟨b, o + k * 2 + 1, none⟩ = some (.slice B m d) := by
  obtain ⟨b, o, x, es, hA, hb, hx, ⟨B, m, d, rfl, hr⟩, hc⟩ := Rep.sl_at h hk
  simp only [show Rep.key.size = 2 from rfl] at hc
  refine ⟨b, o, x, B, m, d, hA, hb, hx, hr, ?_, hc 1 _ rfl⟩
  have := hc 0 _ rfl
  rwa [Nat.add_zero] at this
theorem TKey : ElemT Tryd.prog 66 38 (.agg #[.bool false, .slice none 0 0]) 2 32 := ⟨Tryd.underlying66, by kernel_rfl, rfl, by decide⟩
theorem kid_wt {t : Tree} {i : Nat} (h : i < t.kids.length) : (t.kid i).wt ≤ t.wt := by
  have h1 : t.kid i ∈ t.kids := by
    rw [Tree.kid_at (List.getElem?_eq_getElem h)]
    exact List.getElem_mem h
  exact Nat.le_of_lt (Tree.wt_kid h1)
theorem candK_len {v : Tree} {k : Bool × List UInt8} (h : candK v = some k) : k.2.length ≤ v.wt := by
  unfold candK at h
  split at h
  · rename_i hq
    rw [beq_iff_eq] at hq
    injection h with h
    subst h
    exact Nat.le_trans (Tree.wt_data _) (kid_wt (by omega))
  · split at h
    · rename_i hq
      rw [Bool.and_eq_true, beq_iff_eq, beq_iff_eq] at hq
      injection h with h
      subst h
      exact Nat.le_trans (Tree.wt_data _) (Nat.le_trans (kid_wt (t := v.kid 1) (by omega)) (kid_wt (by omega)))
    · cases h
/-- What the program has found. -/
def Found (w wx : World) (v : Tree) (s : Value) : Prop :=
  (candK v = none ∧ s = .slice none 0 0) ∨ ∃ k A c, candK v = some k ∧ s = .slice A 1 c ∧ Rep.key.sl wx (fun b => w.heap.size + 2 ≤ b ∧ b < wx.heap.size) A 1 c [k]
theorem Found.later {w wx w1 : World} {v : Tree} {s : Value} (h : Found w wx v s) (hB : Below wx.heap.size wx w1) : Found w w1 v s := by
  rcases h with h | ⟨k, A, c, h1, h2, h3⟩
  · exact .inl h
  · exact .inr ⟨k, A, c, h1, h2, Rep.sl_more (Rep.sl_below h3 hB fun _ h => h.2) fun b hb => ⟨hb.1, Nat.lt_of_lt_of_le hb.2 hB.size⟩⟩

set_option maxHeartbeats 4000000 in
set_option maxRecDepth 100000 in
theorem kget_c (v : Tree) (w : World) (cs : List Value) (h : Rep.tree.rd w (fun b => b < w.heap.size) cs v) (hw : v.wt ≤ 100000000) :
    Calls Tryd.prog 19 #[.agg cs.toArray] w (KeyE w w.heap.size (keyOr (getK v)) (if (getK v).isSome then 0 else 7)) := by
  obtain ⟨A1, n1, c1, A2, n2, c2, A3, n3, c3, rfl, hp⟩ := Rep.tree_open h
  have HP := Lib.hid hp
  have HW := Lib.hid hw
  have HN := Lib.hid hp.2.2.1
  have hnc := hp.2.2.2.1
  have HX := Lib.hid ((Below.alloc (Below.refl _ w) (Nat.le_refl _) (.cells #[.bool v.list, .bool v.hinted, .slice A1 n1 c1, .slice A2 n2 c2, .slice A3 n3 c3] 25)).alloc (by simp only [World.size_alloc]; omega) (.cells #[.bool false, .slice none 0 0] 38))
  have hbx := box_alloc (box_new w #[.bool v.list, .bool v.hinted, .slice A1 n1 c1, .slice A2 n2 c2, .slice A3 n3 c3] 25) (.cells #[.bool false, .slice none 0 0] 38)
  have hrx := box_new1 (w := w) (o := .cells #[.bool v.list, .bool v.hinted, .slice A1 n1 c1, .slice A2 n2 c2, .slice A3 n3 c3] 25) (cs := #[.bool false, .slice none 0 0]) (t := 38)
  have HPX := Lib.hid (hp.later HX.out)
  clear h hp hw
  generalize hpo : (if (getK v).isSome then (0 : Int) else 7) = ek
  have HEK := Lib.hid hpo
  clear hpo
  go_enter Tryd.func19, Tryd.ntmps19
  go_upto_block 0 with fail
  go_cut [4] (fun s wx => Hid (Found w wx v s) ∧ Hid (Below w.heap.size w wx) ∧ wx.heap[w.heap.size]? = some (.cells #[.bool v.list, .bool v.hinted, .slice A1 n1 c1, .slice A2 n2 c2, .slice A3 n3 c3] 25 (0, 0)) ∧ wx.heap[w.heap.size + 1]? = some (.cells #[.bool false, .slice none 0 0] 38 (0, 0)))
  case first =>
    have hc0 := (boxed hbx) 0 _ rfl; have hc1 := (boxed hbx) 1 _ rfl; have hc2 := (boxed hbx) 2 _ rfl; have hc3 := (boxed hbx) 3 _ rfl; have hc4 := (boxed hbx) 4 _ rfl
    by_cases q3 : n3 = 3
    · subst q3
      have HC : Hid (candK v = some (true, (v.kid 2).data)) := by show _ = _; rw [candK, HN.out]; rfl
      obtain ⟨kbm, kom, mA1, mn1, mc1, mA2, mn2, mc2, mA3, mn3, mc3, hAm, hbm, hpm, m0, m1, m2, m3, m4⟩ := kid_at' (t := v) (k := 2) HPX.out.2.2 (by omega)
      simp only [show 2 * 5 = 10 from rfl, Nat.add_assoc, Nat.reduceAdd] at m0 m1 m2 m3 m4
      subst hAm
      have HMD := Lib.hid hpm.2.1
      have hml : mn2 ≤ 1000000000 := by
        have h1 : v.kid 2 ∈ v.kids := by
          have h2 : 2 < v.kids.length := by rw [HN.out]; omega
          rw [Tree.kid_at (List.getElem?_eq_getElem h2)]
          exact List.getElem_mem h2
        have h2 := Tree.wt_kid h1
        have h3 := (v.kid 2).wt_data
        have h4 := HMD.out.1
        have := HW.out
        omega
      clear hpm
      go_wp2_with fail
      refine Calls.mono (bclone_c (v.kid 2).data _ _ _ _ HMD.out hml) ?_
      rintro e w2 ⟨vD, rfl, ho, hB⟩
      obtain ⟨AD, cD, rfl, hsl⟩ := ho.sl_all
      have HD0 := Lib.hid ho.sl_in
      have HX2 := Lib.hid (below_then HX.out hB)
      have hbx2 := box_below hbx hB (Array.getElem?_eq_some_iff.1 hbx).1
      have hrx2 := box_below hrx hB (Array.getElem?_eq_some_iff.1 hrx).1
      have hz := hB.size
      simp only [World.size_alloc] at hz
      clear ho hsl hB
      have hbn := box_new w2 #[.bool true, .slice AD ((v.kid 2).data).length cD] 38
      have HRK : Hid (Rep.key.rd (w2.alloc (.cells #[.bool true, .slice AD ((v.kid 2).data).length cD] 38)) (fun b => w.heap.size + 2 ≤ b ∧ b < w2.heap.size) [.bool true, .slice AD ((v.kid 2).data).length cD] (true, (v.kid 2).data)) :=
        ⟨_, _, _, rfl, Rep.sl_below (Rep.sl_more HD0.out fun b hb => by simp only [World.size_alloc] at hb; exact hb) (Below.alloc (Below.refl _ w2) (Nat.le_refl _) _) fun b hb => hb.2⟩
      go_wp2_with (at_builtin; refine halt ?_)
      refine go_on (wpList_app1 rfl TKey _ _ rfl (by rfl) (Rep.own_nil (base := w.heap.size + 2)) [_, _] (true, (v.kid 2).data) rfl (box_cells hbn) HRK.out (by simp) (by simp) (by simp only [World.size_alloc]; omega) (fun b hb => ⟨by simp only [World.size_alloc]; omega, by simp [Value.ownBlock]⟩) ?_)
      intro v6 w6 ho6 hg6 _
      obtain ⟨A6, c6, rfl, hs6⟩ := Rep.own_sl ho6
      have hlt6 := Rep.own_lt ho6
      have hz6 := hg6.size
      simp only [World.size_alloc] at hz6
      have HF6 : Hid (Found w w6 v (.slice A6 1 c6)) := .inr ⟨_, _, _, HC.out, rfl, Rep.sl_more hs6 fun b hb => by
        rcases hb with hb | hb
        · exact ⟨hb.1, by omega⟩
        · exact hlt6 b hb⟩
      have HX6 := Lib.hid ((HX2.out.alloc HX2.out.size (.cells #[.bool true, .slice AD ((v.kid 2).data).length cD] 38)).grown hg6 (by simp only [World.size_alloc]; omega) fun k hk => by cases hk)
      have hbx6 := box_grown (box_alloc hbx2 (.cells #[.bool true, .slice AD ((v.kid 2).data).length cD] 38)) hg6 (by simp [Value.ownBlock])
      have hrx6 := box_grown (box_alloc hrx2 (.cells #[.bool true, .slice AD ((v.kid 2).data).length cD] 38)) hg6 (by simp [Value.ownBlock])
      clear ho6 hg6 hs6 hlt6 hbn
      go_wp2_with fail
      go_meet
      exact ⟨HF6.out, HX6.out, hbx6, hrx6⟩
    · have e3 : ((n3 : Int) == 3) = false := by rw [beq_eq_false_iff_ne]; omega
      by_cases q2 : n3 = 2
      · subst q2
        obtain ⟨kbm, kom, mA1, mn1, mc1, mA2, mn2, mc2, mA3, mn3, mc3, hAm, hbm, hpm, m0, m1, m2, m3, m4⟩ := kid_at' (t := v) (k := 1) HPX.out.2.2 (by omega)
        simp only [show 1 * 5 = 5 from rfl, Nat.add_assoc, Nat.reduceAdd] at m0 m1 m2 m3 m4
        subst hAm
        have HPM := Lib.hid hpm
        have hmc := hpm.2.2.2.1
        have HMN := Lib.hid hpm.2.2.1
        clear hpm
        by_cases q4 : mn3 = 2
        · subst q4
          have HC : Hid (candK v = some (false, ((v.kid 1).kid 1).data)) := by show _ = _; rw [candK, HN.out, HMN.out]; rfl
          obtain ⟨kbz, koz, zA1, zn1, zc1, zA2, zn2, zc2, zA3, zn3, zc3, hAz, hbz, hpz, z0, z1, z2, z3, z4⟩ := kid_at' (t := (v.kid 1)) (k := 1) HPM.out.2.2 (by omega)
          simp only [show 1 * 5 = 5 from rfl, Nat.add_assoc, Nat.reduceAdd] at z0 z1 z2 z3 z4
          subst hAz
          have HZD := Lib.hid hpz.2.1
          have hzl : zn2 ≤ 1000000000 := by
            have h1 : v.kid 1 ∈ v.kids := by
              have h2 : 1 < v.kids.length := by rw [HN.out]; omega
              rw [Tree.kid_at (List.getElem?_eq_getElem h2)]
              exact List.getElem_mem h2
            have h1' : (v.kid 1).kid 1 ∈ (v.kid 1).kids := by
              have h2 : 1 < (v.kid 1).kids.length := by rw [HMN.out]; omega
              rw [Tree.kid_at (t := v.kid 1) (List.getElem?_eq_getElem h2)]
              exact List.getElem_mem h2
            have h2 := Tree.wt_kid h1
            have h2' := Tree.wt_kid h1'
            have h3 := ((v.kid 1).kid 1).wt_data
            have h4 := HZD.out.1
            have := HW.out
            omega
          clear hpz
          go_wp2_with fail
          refine Calls.mono (bclone_c ((v.kid 1).kid 1).data _ _ _ _ HZD.out hzl) ?_
          rintro e w2 ⟨vD, rfl, ho, hB⟩
          obtain ⟨AD, cD, rfl, hsl⟩ := ho.sl_all
          have HD0 := Lib.hid ho.sl_in
          have HX2 := Lib.hid (below_then HX.out hB)
          have hbx2 := box_below hbx hB (Array.getElem?_eq_some_iff.1 hbx).1
          have hrx2 := box_below hrx hB (Array.getElem?_eq_some_iff.1 hrx).1
          have hz := hB.size
          simp only [World.size_alloc] at hz
          clear ho hsl hB
          have hbn := box_new w2 #[.bool false, .slice AD (((v.kid 1).kid 1).data).length cD] 38
          have HRK : Hid (Rep.key.rd (w2.alloc (.cells #[.bool false, .slice AD (((v.kid 1).kid 1).data).length cD] 38)) (fun b => w.heap.size + 2 ≤ b ∧ b < w2.heap.size) [.bool false, .slice AD (((v.kid 1).kid 1).data).length cD] (false, ((v.kid 1).kid 1).data)) :=
            ⟨_, _, _, rfl, Rep.sl_below (Rep.sl_more HD0.out fun b hb => by simp only [World.size_alloc] at hb; exact hb) (Below.alloc (Below.refl _ w2) (Nat.le_refl _) _) fun b hb => hb.2⟩
          go_wp2_with (at_builtin; refine halt ?_)
          refine go_on (wpList_app1 rfl TKey _ _ rfl (by rfl) (Rep.own_nil (base := w.heap.size + 2)) [_, _] (false, ((v.kid 1).kid 1).data) rfl (box_cells hbn) HRK.out (by simp) (by simp) (by simp only [World.size_alloc]; omega) (fun b hb => ⟨by simp only [World.size_alloc]; omega, by simp [Value.ownBlock]⟩) ?_)
          intro v6 w6 ho6 hg6 _
          obtain ⟨A6, c6, rfl, hs6⟩ := Rep.own_sl ho6
          have hlt6 := Rep.own_lt ho6
          have hz6 := hg6.size
          simp only [World.size_alloc] at hz6
          have HF6 : Hid (Found w w6 v (.slice A6 1 c6)) := .inr ⟨_, _, _, HC.out, rfl, Rep.sl_more hs6 fun b hb => by
            rcases hb with hb | hb
            · exact ⟨hb.1, by omega⟩
            · exact hlt6 b hb⟩
          have HX6 := Lib.hid ((HX2.out.alloc HX2.out.size (.cells #[.bool false, .slice AD (((v.kid 1).kid 1).data).length cD] 38)).grown hg6 (by simp only [World.size_alloc]; omega) fun k hk => by cases hk)
          have hbx6 := box_grown (box_alloc hbx2 (.cells #[.bool false, .slice AD (((v.kid 1).kid 1).data).length cD] 38)) hg6 (by simp [Value.ownBlock])
          have hrx6 := box_grown (box_alloc hrx2 (.cells #[.bool false, .slice AD (((v.kid 1).kid 1).data).length cD] 38)) hg6 (by simp [Value.ownBlock])
          clear ho6 hg6 hs6 hlt6 hbn
          go_wp2_with fail
          go_meet
          exact ⟨HF6.out, HX6.out, hbx6, hrx6⟩
        · have e4 : ((mn3 : Int) == 2) = false := by rw [beq_eq_false_iff_ne]; omega
          have HC : Hid (candK v = none) := by show _ = _; rw [candK, HN.out, HMN.out, beq_eq_false_iff_ne.2 q4]; rfl
          go_wp2_with fail
          go_meet
          exact ⟨.inl ⟨HC.out, rfl⟩, HX.out, hbx, hrx⟩
      · have e2 : ((n3 : Int) == 2) = false := by rw [beq_eq_false_iff_ne]; omega
        have HC : Hid (candK v = none) := by show _ = _; rw [candK, HN.out, beq_eq_false_iff_ne.2 q3, beq_eq_false_iff_ne.2 q2]; rfl
        go_wp2_with fail
        go_meet
        exact ⟨.inl ⟨HC.out, rfl⟩, HX.out, hbx, hrx⟩
  case rest =>
    obtain ⟨HF, HXc, hbxc, hrxc⟩ := hcut
    clear HX hbx hrx HPX
    rcases HF.out with ⟨hcd, rfl⟩ | ⟨⟨sm, d⟩, A, c, hcd, rfl, hsl⟩
    · have HG : Hid (getK v = none) := by show _ = _; rw [getK, hcd]
      have HE7 : Hid (ek = 7) := by show _ = _; rw [← HEK.out, HG.out]; rfl
      clear hcd
      go_wp2
      go_loopw [53] (fun ix wr => ix = .int .i64 0 ∧ Hid (Below w.heap.size w wr) ∧ wr.heap[w.heap.size]? = some (.cells #[.bool v.list, .bool v.hinted, .slice A1 n1 c1, .slice A2 n2 c2, .slice A3 n3 c3] 25 (0, 0)) ∧ wr.heap[w.heap.size + 1]? = some (.cells #[.bool false, .slice none 0 0] 38 (0, 0))) (fun ix _ => 0)
      case atStart => exact ⟨rfl, HXc, hbxc, hrxc⟩
      case round =>
        obtain ⟨rfl, HX, hbx, hrx⟩ := hrel
        have hr0 := (boxed hrx) 0 _ rfl; have hr1 := (boxed hrx) 1 _ rfl
        have hf0 := boxed_frozen hrx 0; have hf1 := boxed_frozen hrx 1
        have hsz := (Array.getElem?_eq_some_iff.1 hrx).1
        go_wp2
        rw [HG.out, HE7.out]
        exact keyE_ret (k := (false, [])) (l := w.heap.size) (h := w.heap.size) (w2 := wr) (g := w.heap.size + 1) (by simp [results, Tryd.results19, go_sem, put2, hr0, hr1]) rfl Rep.sl_nil (Nat.le_refl _) (by omega) (by omega) HX.out (by omega) hsz
    · have HCD := Lib.hid hcd
      have HSL := Lib.hid hsl
      have hdl : d.length ≤ 100000000 := Nat.le_trans (candK_len hcd) HW.out
      clear hcd hsl
      go_wp2
      go_loopw [53] (fun ix wr => ∃ j : Nat, j ≤ 1 ∧ ix = .int .i64 j ∧ Hid (0 < j → getK v = none) ∧ Hid (Below w.heap.size w wr) ∧ wr.heap[w.heap.size]? = some (.cells #[.bool v.list, .bool v.hinted, .slice A1 n1 c1, .slice A2 n2 c2, .slice A3 n3 c3] 25 (0, 0)) ∧ wr.heap[w.heap.size + 1]? = some (.cells #[.bool false, .slice none 0 0] 38 (0, 0)) ∧
        Hid (Rep.key.sl wr (fun b => w.heap.size + 2 ≤ b ∧ b < wr.heap.size) A 1 c [(sm, d)])) (fun ix _ => 1 - (intOf ix).toNat)
      case atStart => exact ⟨0, by omega, rfl, fun h => absurd h (by omega), HXc, hbxc, hrxc, HSL.out⟩
      case round =>
        obtain ⟨j, hj, rfl, HN0, HX, hbx, hrx, HSL⟩ := hrel
        have hj' : j = 0 ∨ j = 1 := by omega
        rcases hj' with rfl | rfl
        · obtain ⟨kb, ko, x, B, m, cd, rfl, hkb, hx, hxs, x0, x1⟩ := key_at HSL.out (k := 0) (by omega)
          simp only [Nat.zero_mul, Nat.add_zero] at x0 x1
          injection hx with hx
          subst hx
          have HXS := Lib.hid hxs
          have hml : m ≤ 100000000 := by rw [← hxs.1]; exact hdl
          clear hxs
          have HPV := Lib.hid (HP.out.later HX.out)
          have HBA := Lib.hid (Below.alloc (Below.refl wr.heap.size wr) (Nat.le_refl _) (.cells #[.bool sm, .slice B m cd] 38))
          have HXS2 := Lib.hid (Rep.sl_more (S' := fun b => b < (wr.alloc (.cells #[.bool sm, .slice B m cd] 38)).heap.size) (Rep.sl_below HXS.out HBA.out fun _ h => h.2) fun b hb => by have := hb.2; simp only [World.size_alloc]; omega)
          go_wp2_with fail
          refine Calls.mono (kput_c sm d B m cd _ w.heap.size (by have := HX.out.size; simp only [World.size_alloc]; omega) HXS2.out (by omega)) ?_
          rintro e w3 ⟨tA1, tn1, tc1, tA2, tn2, tc2, tA3, tn3, tc3, rfl, hpt, hB⟩
          have HPT := Lib.hid hpt
          have hB3 := below_then HBA.out hB
          have hkx := box_below (box_new wr #[.bool sm, .slice B m cd] 38) hB (by simp only [World.size_alloc]; omega)
          have hbx := box_below hbx hB3 (Array.getElem?_eq_some_iff.1 hbx).1
          have hrx := box_below hrx hB3 (Array.getElem?_eq_some_iff.1 hrx).1
          have HXS3 := Lib.hid (Rep.sl_below HXS.out hB3 fun b hb => hb.2)
          have HSL3 := Lib.hid (Rep.sl_more (S' := fun b => w.heap.size + 2 ≤ b ∧ b < w3.heap.size) (Rep.sl_below HSL.out hB3 fun b hb => hb.2) fun b hb => ⟨hb.1, Nat.lt_of_lt_of_le hb.2 hB3.size⟩)
          have HX3 := Lib.hid (below_then HX.out hB3)
          have hz3 := hB3.size
          have hkl := (Array.getElem?_eq_some_iff.1 hkx).1
          have hww := HX.out.size
          clear hpt hB hB3 x0 x1 HXS2 HBA
          simp only [treeV]
          have hB4 := Below.alloc (Below.refl w3.heap.size w3) (Nat.le_refl _) (.cells #[.bool (keyOut sm d).list, .bool (keyOut sm d).hinted, .slice tA1 tn1 tc1, .slice tA2 tn2 tc2, .slice tA3 tn3 tc3] 25)
          have hbx4 := box_below hbx hB4 (Array.getElem?_eq_some_iff.1 hbx).1
          have hrx4 := box_below hrx hB4 (Array.getElem?_eq_some_iff.1 hrx).1
          have HX4 := Lib.hid (below_then HX3.out hB4)
          have HSL4 := Lib.hid (Rep.sl_more (S' := fun b => w.heap.size + 2 ≤ b ∧ b < (w3.alloc (.cells #[.bool (keyOut sm d).list, .bool (keyOut sm d).hinted, .slice tA1 tn1 tc1, .slice tA2 tn2 tc2, .slice tA3 tn3 tc3] 25)).heap.size) (Rep.sl_below HSL3.out hB4 fun b hb => hb.2) fun b hb => ⟨hb.1, Nat.lt_of_lt_of_le hb.2 hB4.size⟩)
          have HPV4 := Lib.hid (HP.out.later HX4.out)
          have HPT4 := Lib.hid (Parts.more (S' := fun b => b < (w3.alloc (.cells #[.bool (keyOut sm d).list, .bool (keyOut sm d).hinted, .slice tA1 tn1 tc1, .slice tA2 tn2 tc2, .slice tA3 tn3 tc3] 25)).heap.size) (HPT.out.next hB4) fun b hb => hb.2)
          cases hm : keyMay sm d with
          | false =>
            have HE : Hid (keyErr sm d = 7) := by show _ = _; rw [keyErr, hm]; rfl
            have HG : Hid (getK v = none) := by show _ = _; rw [getK, HCD.out]; dsimp only; rw [HE.out]; rfl
            clear hm hbx hrx hB4
            rw [HE.out]
            generalize (keyOut sm d).list = tl at *
            generalize (keyOut sm d).hinted = th at *
            go_wp2
            go_roundw
            case rel => exact ⟨1, by omega, by go_num, fun _ => HG.out, HX4.out, hbx4, hrx4, HSL4.out⟩
            case measure => simp [intOf]
          | true =>
            have HE : Hid (keyErr sm d = 0) := by show _ = _; rw [keyErr, hm]; rfl
            clear hm
            rw [HE.out]
            have hc0 := (boxed hbx) 0 _ rfl; have hc1 := (boxed hbx) 1 _ rfl; have hc2 := (boxed hbx) 2 _ rfl; have hc3 := (boxed hbx) 3 _ rfl; have hc4 := (boxed hbx) 4 _ rfl
            have hlw : w.heap.size < w3.heap.size := (Array.getElem?_eq_some_iff.1 hbx).1
            have hkx4 := box_below hkx hB4 hkl
            have HXS4 := Lib.hid (Rep.sl_below HXS3.out hB4 fun b hb => by omega)
            have hz4 := hB4.size
            clear hB4 hbx hrx
            go_wp2_with fail
            refine Calls.mono (sxsame_c v (keyOut sm d) _ _ _ HPV4.out.rd HPT4.out.rd) ?_
            rintro e w5 ⟨rfl, hB⟩
            have hbx5 := box_below hbx4 hB (Array.getElem?_eq_some_iff.1 hbx4).1
            have hrx5 := box_below hrx4 hB (Array.getElem?_eq_some_iff.1 hrx4).1
            have hkx5 := box_below hkx4 hB (Array.getElem?_eq_some_iff.1 hkx4).1
            have HX5 := Lib.hid (below_then HX4.out hB)
            have HXS5 : Hid (Rep.u8.slI w5 (w.heap.size + 2) wr.heap.size B m cd d) := Rep.sl_below HXS4.out hB fun b hb => by omega
            have HSL5 := Lib.hid (Rep.sl_more (S' := fun b => w.heap.size + 2 ≤ b ∧ b < w5.heap.size) (Rep.sl_below HSL4.out hB fun b hb => hb.2) fun b hb => ⟨hb.1, Nat.lt_of_lt_of_le hb.2 hB.size⟩)
            have hz5 := hB.size
            clear hB hbx4 hrx4 hkx4 hkx hc0 hc1 hc2 hc3 hc4
            cases hq : v.same (keyOut sm d) with
            | true =>
              have HG : Hid (getK v = some (sm, d)) := by show _ = _; rw [getK, HCD.out]; dsimp only; rw [HE.out, hq]; rfl
              have HE0 : Hid (ek = 0) := by show _ = _; rw [← HEK.out, HG.out]; rfl
              clear hq
              have hk0 := (boxed hkx5) 0 _ rfl; have hk1 := (boxed hkx5) 1 _ rfl
              have hr0 := (boxed hrx5) 0 _ rfl; have hr1 := (boxed hrx5) 1 _ rfl
              have hf0 := boxed_frozen hrx5 0; have hf1 := boxed_frozen hrx5 1
              have hsz := (Array.getElem?_eq_some_iff.1 hrx5).1
              go_wp2
              rw [HG.out, HE0.out]
              exact keyE_ret (k := (sm, d)) (l := w.heap.size + 2) (h := wr.heap.size) (w2 := w5) (g := w.heap.size + 1) (by simp [results, Tryd.results19, go_sem, put2, hr0, hr1]) rfl HXS5.out (by omega) (by omega) (by omega) HX5.out (by omega) hsz
            | false =>
              have HG : Hid (getK v = none) := by show _ = _; rw [getK, HCD.out]; dsimp only; rw [hq, Bool.and_false]; rfl
              clear hq hkx5
              go_wp2
              go_roundw
              case rel => exact ⟨1, by omega, by go_num, fun _ => HG.out, HX5.out, hbx5, hrx5, HSL5.out⟩
              case measure => simp [intOf]
        · have HG : Hid (getK v = none) := HN0.out (by omega)
          have HE7 : Hid (ek = 7) := by show _ = _; rw [← HEK.out, HG.out]; rfl
          have hr0 := (boxed hrx) 0 _ rfl; have hr1 := (boxed hrx) 1 _ rfl
          have hf0 := boxed_frozen hrx 0; have hf1 := boxed_frozen hrx 1
          have hsz := (Array.getElem?_eq_some_iff.1 hrx).1
          go_wp2
          rw [HG.out, HE7.out]
          exact keyE_ret (k := (false, [])) (l := w.heap.size) (h := w.heap.size) (w2 := wr) (g := w.heap.size + 1) (by simp [results, Tryd.results19, go_sem, put2, hr0, hr1]) rfl Rep.sl_nil (Nat.le_refl _) (by omega) (by omega) HX.out (by omega) hsz
end Go.Proofs.YtdakeodebgggfaaDoor
