/- The reference's way of getting a principal: the walk. -/
import Derived.Test.YtdakeodebgggfaaDoorUf
import Derived.Deep.DeepCutAuto
namespace Go.Proofs.YtdakeodebgggfaaDoor
open Go.RowKit
set_option linter.unusedVariables false
set_option linter.unusedSimpArgs false

def rC1 (v : Tree) : Bool := headB v tHash && v.kids.length == 3 && isB (v.kid 1) tSha && plainB (v.kid 2) 64
def rC2 (v : Tree) : Bool := headB v tPub && v.kids.length == 2 && headB (v.kid 1) tEd && (v.kid 1).kids.length == 2 && plainB ((v.kid 1).kid 1) 32
theorem rgetK_parts (v : Tree) : rgetK v = if rC1 v then some (true, (v.kid 2).data) else if rC2 v then some (false, ((v.kid 1).kid 1).data) else none := rfl
theorem Parts.rd {w : World} {S : Nat → Prop} {t : Tree} {A1 A2 A3 : Option Addr} {n1 c1 n2 c2 n3 c3 : Nat} (h : Parts w S t A1 n1 c1 A2 n2 c2 A3 n3 c3) : Rep.tree.rd w S [.bool t.list, .bool t.hinted, .slice A1 n1 c1, .slice A2 n2 c2, .slice A3 n3 c3] t := Rep.tree_mk h
/-- A principal that reads through S. -/
def KeyOkS (w : World) (S : Nat → Prop) (k : Bool × List UInt8) (ok : Bool) (e : Ending) (w' : World) : Prop :=
  ∃ A n c, e = .returned (.tuple #[.agg #[.bool k.1, .slice A n c], .bool ok]) ∧ Rep.u8.sl w' S A n c k.2 ∧ Below w.heap.size w w'
theorem keyOkS_ret {P : Program} {fn : Func} {a : Act} {w w2 : World} {S : Nat → Prop} {k : Bool × List UInt8} {ok : Bool} {g : Nat} {A : Option Addr} {n c : Nat}
    (hr : (results fn a.tmps).run P (put2 w2 g 0 (.bool k.1) (.slice A n c)) = .ok (.tuple #[.agg #[.bool k.1, .slice A n c], .bool ok]) (put2 w2 g 0 (.bool k.1) (.slice A n c))) (hd : a.defers = [])
    (hp : Rep.u8.sl w2 S A n c k.2) (hS : ∀ b, S b → b < w2.heap.size ∧ b ≠ g) (hB : Below w.heap.size w w2) (hg : w.heap.size ≤ g) (hg2 : g < w2.heap.size) :
    bodyPost P fn (KeyOkS w S k ok) .ret a (put2 w2 g 0 (.bool k.1) (.slice A n c)) :=
  bodyPost_ret hr hd ⟨_, _, _, rfl, Rep.sl_grown hp (put2_grown ..) fun b hb => ⟨(hS b hb).1, by have := (hS b hb).2; simpa using this⟩, hB.grown (put2_grown ..) hB.size fun k hk => by injection hk; omega⟩
set_option maxHeartbeats 4000000 in
set_option maxRecDepth 100000 in
theorem rkget_S (v : Tree) (w : World) (S : Nat → Prop) (hS : ∀ b, S b → b < w.heap.size) (cs : List Value) (h : Rep.tree.rd w S cs v) :
    Calls Tryd.prog 23 #[.agg cs.toArray] w (KeyOkS w S (keyOr (rgetK v)) (rgetK v).isSome) := by
  obtain ⟨A1, n1, c1, A2, n2, c2, A3, n3, c3, rfl, hps⟩ := Rep.tree_open h
  have HPS := Lib.hid hps
  have hp := hps.more (S' := fun b => b < w.heap.size) hS
  have HP := Lib.hid hp
  have HN := Lib.hid hp.2.2.1
  have hnc := hp.2.2.2.1
  have HX0 := Lib.hid ((Below.alloc (Below.refl _ w) (Nat.le_refl _) (.cells #[.bool v.list, .bool v.hinted, .slice A1 n1 c1, .slice A2 n2 c2, .slice A3 n3 c3] 25)).alloc (by simp only [World.size_alloc]; omega) (.cells #[.bool false, .slice none 0 0] 38))
  have hbx0 := box_alloc (box_new w #[.bool v.list, .bool v.hinted, .slice A1 n1 c1, .slice A2 n2 c2, .slice A3 n3 c3] 25) (.cells #[.bool false, .slice none 0 0] 38)
  have hrx0 := box_new1 (w := w) (o := .cells #[.bool v.list, .bool v.hinted, .slice A1 n1 c1, .slice A2 n2 c2, .slice A3 n3 c3] 25) (cs := #[.bool false, .slice none 0 0]) (t := 38)
  have HPX := Lib.hid (hp.later HX0.out)
  clear h hp hps
  go_enter Tryd.func23, Tryd.ntmps23
  go_upto_region 1 with fail
  go_cut [25] (fun s wx => s = .bool (rC1 v) ∧ Hid (Below w.heap.size w wx) ∧ wx.heap[w.heap.size]? = some (.cells #[.bool v.list, .bool v.hinted, .slice A1 n1 c1, .slice A2 n2 c2, .slice A3 n3 c3] 25 (0, 0)) ∧ wx.heap[w.heap.size + 1]? = some (.cells #[.bool false, .slice none 0 0] 38 (0, 0)))
  case first =>
    go_wp2_with fail
    refine Calls.mono (headref_c v tHash _ _ HPX.out.rd) ?_
    rintro e w2 ⟨rfl, hB⟩
    have HX := Lib.hid (below_then HX0.out hB)
    have hbx := box_below hbx0 hB (Array.getElem?_eq_some_iff.1 hbx0).1
    have hrx := box_below hrx0 hB (Array.getElem?_eq_some_iff.1 hrx0).1
    clear hB HX0 hbx0 hrx0 HPX
    have hc0 := (boxed hbx) 0 _ rfl; have hc1 := (boxed hbx) 1 _ rfl; have hc2 := (boxed hbx) 2 _ rfl; have hc3 := (boxed hbx) 3 _ rfl; have hc4 := (boxed hbx) 4 _ rfl
    cases q1 : headB v tHash
    · have HR : Hid (false = rC1 v) := by show _ = _; rw [rC1, q1]; rfl
      clear q1
      go_wp2_with fail
      go_meet
      exact ⟨by rw [← HR.out], HX.out, hbx, hrx⟩
    have Q1 := Lib.hid q1
    clear q1
    by_cases q2 : n3 = 3
    case neg =>
      have e2 : ((n3 : Int) == 3) = false := by rw [beq_eq_false_iff_ne]; omega
      have HR : Hid (false = rC1 v) := by show _ = _; rw [rC1, HN.out, beq_eq_false_iff_ne.2 q2]; simp
      go_wp2_with fail
      go_meet
      exact ⟨by rw [← HR.out], HX.out, hbx, hrx⟩
    subst q2
    obtain ⟨kbx, kox, xA1, xn1, xc1, xA2, xn2, xc2, xA3, xn3, xc3, hAx, hbx, hpx, x0, x1, x2, x3, x4⟩ := kid_at' (t := v) (k := 1) (sl_later HP.out.2.2 HX.out) (by omega)
    simp only [show 1 * 5 = 5 from rfl, Nat.add_assoc, Nat.reduceAdd] at x0 x1 x2 x3 x4
    subst hAx
    have HPX := Lib.hid hpx
    clear hpx
    go_wp2_with fail
    refine Calls.mono (isref_c (v.kid 1) tSha _ _ HPX.out.rd) ?_
    rintro e w3 ⟨rfl, hB⟩
    have HX := Lib.hid (below_then HX.out hB)
    have hbx := box_below hbx hB (Array.getElem?_eq_some_iff.1 hbx).1
    have hrx := box_below hrx hB (Array.getElem?_eq_some_iff.1 hrx).1
    clear hB hc0 hc1 hc2 hc3 hc4 x0 x1 x2 x3 x4 HPX
    have hc0 := (boxed hbx) 0 _ rfl; have hc1 := (boxed hbx) 1 _ rfl; have hc2 := (boxed hbx) 2 _ rfl; have hc3 := (boxed hbx) 3 _ rfl; have hc4 := (boxed hbx) 4 _ rfl
    cases q3 : isB (v.kid 1) tSha
    · have HR : Hid (false = rC1 v) := by show _ = _; rw [rC1, q3]; simp
      clear q3
      go_wp2_with fail
      go_meet
      exact ⟨by rw [← HR.out], HX.out, hbx, hrx⟩
    have HR : Hid (plainB (v.kid 2) 64 = rC1 v) := by show _ = _; rw [rC1, Q1.out, HN.out, q3]; rfl
    clear q3
    obtain ⟨kby, koy, yA1, yn1, yc1, yA2, yn2, yc2, yA3, yn3, yc3, hAy, hby, hpy, y0, y1, y2, y3, y4⟩ := kid_at' (t := v) (k := 2) (sl_later HP.out.2.2 HX.out) (by omega)
    simp only [show 2 * 5 = 10 from rfl, Nat.add_assoc, Nat.reduceAdd] at y0 y1 y2 y3 y4
    injection hAy with hAy
    injection hAy with hbxy hoxy
    subst hbxy hoxy
    have HPY := Lib.hid hpy
    clear hpy
    go_wp2_with fail
    refine Calls.mono (plain_c (v.kid 2) 64 _ _ HPY.out.rd) ?_
    rintro e w4 ⟨rfl, hB⟩
    have HX := Lib.hid (below_then HX.out hB)
    have hbx := box_below hbx hB (Array.getElem?_eq_some_iff.1 hbx).1
    have hrx := box_below hrx hB (Array.getElem?_eq_some_iff.1 hrx).1
    clear hB hc0 hc1 hc2 hc3 hc4 y0 y1 y2 y3 y4 HPY
    rw [HR.out]
    generalize rC1 v = r1 at *
    go_wp2_with fail
    go_meet
    exact ⟨rfl, HX.out, hbx, hrx⟩
  case rest =>
    obtain ⟨rfl, HX, hbx, hrx⟩ := hcut
    clear HX0 hbx0 hrx0 HPX
    have hsz := (Array.getElem?_eq_some_iff.1 hrx).1
    cases r1 : rC1 v
    case true =>
      have HR : Hid (rgetK v = some (true, (v.kid 2).data)) := by show _ = _; rw [rgetK_parts, r1]; rfl
      have hn3 : n3 = 3 := by
        rw [rC1] at r1
        simp only [Bool.and_eq_true, beq_iff_eq] at r1
        rw [← HN.out, r1.1.1.2]
      clear r1
      subst hn3
      obtain ⟨kby, koy, yA1, yn1, yc1, yA2, yn2, yc2, yA3, yn3, yc3, hAy, hby, hpy, y0, y1, y2, y3, y4⟩ := kid_at' (t := v) (k := 2) (Rep.sl_below HPS.out.2.2 HX.out hS) (by omega)
      simp only [show 2 * 5 = 10 from rfl, Nat.add_assoc, Nat.reduceAdd] at y0 y1 y2 y3 y4
      subst hAy
      have HD : Hid (Rep.u8.sl wc S yA2 yn2 yc2 (v.kid 2).data) := hpy.2.1
      clear hpy
      have hc0 := (boxed hbx) 0 _ rfl; have hc1 := (boxed hbx) 1 _ rfl; have hc2 := (boxed hbx) 2 _ rfl; have hc3 := (boxed hbx) 3 _ rfl; have hc4 := (boxed hbx) 4 _ rfl
      have hr0 := (boxed hrx) 0 _ rfl; have hr1 := (boxed hrx) 1 _ rfl
      have hf0 := boxed_frozen hrx 0; have hf1 := boxed_frozen hrx 1
      go_wp2
      rw [HR.out]
      exact keyOkS_ret (k := (true, (v.kid 2).data)) (w2 := wc) (g := w.heap.size + 1) (by simp [results, Tryd.results23, go_sem, put2, hr0, hr1]) rfl HD.out (fun b hb => by have := hS b hb; omega) HX.out (by omega) hsz
    have R1 := Lib.hid r1
    clear r1
    go_upto_region 3 with fail
    go_cut [65] (fun s wx => s = .bool (rC2 v) ∧ Hid (Below w.heap.size w wx) ∧ wx.heap[w.heap.size]? = some (.cells #[.bool v.list, .bool v.hinted, .slice A1 n1 c1, .slice A2 n2 c2, .slice A3 n3 c3] 25 (0, 0)) ∧ wx.heap[w.heap.size + 1]? = some (.cells #[.bool false, .slice none 0 0] 38 (0, 0)))
    case first =>
      have HPV := Lib.hid (HP.out.later HX.out)
      have hc0 := (boxed hbx) 0 _ rfl; have hc1 := (boxed hbx) 1 _ rfl; have hc2 := (boxed hbx) 2 _ rfl; have hc3 := (boxed hbx) 3 _ rfl; have hc4 := (boxed hbx) 4 _ rfl
      go_wp2_with fail
      refine Calls.mono (headref_c v tPub _ _ HPV.out.rd) ?_
      rintro e w2 ⟨rfl, hB⟩
      have HX := Lib.hid (below_then HX.out hB)
      have hbx := box_below hbx hB (Array.getElem?_eq_some_iff.1 hbx).1
      have hrx := box_below hrx hB (Array.getElem?_eq_some_iff.1 hrx).1
      clear hB HPV hc0 hc1 hc2 hc3 hc4
      have hc0 := (boxed hbx) 0 _ rfl; have hc1 := (boxed hbx) 1 _ rfl; have hc2 := (boxed hbx) 2 _ rfl; have hc3 := (boxed hbx) 3 _ rfl; have hc4 := (boxed hbx) 4 _ rfl
      cases q1 : headB v tPub
      · have HR : Hid (false = rC2 v) := by show _ = _; rw [rC2, q1]; rfl
        clear q1
        go_wp2_with fail
        go_meet
        exact ⟨by rw [← HR.out], HX.out, hbx, hrx⟩
      have Q1 := Lib.hid q1
      clear q1
      by_cases q2 : n3 = 2
      case neg =>
        have e2 : ((n3 : Int) == 2) = false := by rw [beq_eq_false_iff_ne]; omega
        have HR : Hid (false = rC2 v) := by show _ = _; rw [rC2, HN.out, beq_eq_false_iff_ne.2 q2]; simp
        go_wp2_with fail
        go_meet
        exact ⟨by rw [← HR.out], HX.out, hbx, hrx⟩
      subst q2
      obtain ⟨kbm, kom, mA1, mn1, mc1, mA2, mn2, mc2, mA3, mn3, mc3, hAm, hbm, hpm, m0, m1, m2, m3, m4⟩ := kid_at' (t := v) (k := 1) (sl_later HP.out.2.2 HX.out) (by omega)
      simp only [show 1 * 5 = 5 from rfl, Nat.add_assoc, Nat.reduceAdd] at m0 m1 m2 m3 m4
      subst hAm
      have HPX := Lib.hid hpm
      have HN2 := Lib.hid hpm.2.2.1
      have hn2c := hpm.2.2.2.1
      clear hpm
      go_wp2_with fail
      refine Calls.mono (headref_c (v.kid 1) tEd _ _ HPX.out.rd) ?_
      rintro e w3 ⟨rfl, hB⟩
      have HPX := Lib.hid (HPX.out.later hB)
      have HX := Lib.hid (below_then HX.out hB)
      have hbx := box_below hbx hB (Array.getElem?_eq_some_iff.1 hbx).1
      have hrx := box_below hrx hB (Array.getElem?_eq_some_iff.1 hrx).1
      have m4 := (hB.cell (p := ⟨kbm, kom + 9, none⟩) hbm).trans m4
      clear hc0 hc1 hc2 hc3 hc4 m0 m1 m2 m3
      have hc0 := (boxed hbx) 0 _ rfl; have hc1 := (boxed hbx) 1 _ rfl; have hc2 := (boxed hbx) 2 _ rfl; have hc3 := (boxed hbx) 3 _ rfl; have hc4 := (boxed hbx) 4 _ rfl
      have hbm := Nat.lt_of_lt_of_le hbm hB.size
      clear hB
      cases q3 : headB (v.kid 1) tEd
      · have HR : Hid (false = rC2 v) := by show _ = _; rw [rC2, q3]; simp
        clear q3
        go_wp2_with fail
        go_meet
        exact ⟨by rw [← HR.out], HX.out, hbx, hrx⟩
      have Q3 := Lib.hid q3
      clear q3
      by_cases q4 : mn3 = 2
      case neg =>
        have e4 : ((mn3 : Int) == 2) = false := by rw [beq_eq_false_iff_ne]; omega
        have HR : Hid (false = rC2 v) := by show _ = _; rw [rC2, HN2.out, beq_eq_false_iff_ne.2 q4]; simp
        go_wp2_with fail
        go_meet
        exact ⟨by rw [← HR.out], HX.out, hbx, hrx⟩
      subst q4
      have HR : Hid (plainB ((v.kid 1).kid 1) 32 = rC2 v) := by show _ = _; rw [rC2, Q1.out, HN.out, Q3.out, HN2.out]; rfl
      obtain ⟨kbz, koz, zA1, zn1, zc1, zA2, zn2, zc2, zA3, zn3, zc3, hAz, hbz, hpz, z0, z1, z2, z3, z4⟩ := kid_at' (t := (v.kid 1)) (k := 1) HPX.out.2.2 (by omega)
      simp only [show 1 * 5 = 5 from rfl, Nat.add_assoc, Nat.reduceAdd] at z0 z1 z2 z3 z4
      subst hAz
      have HPZ := Lib.hid hpz
      clear hpz
      go_wp2_with fail
      refine Calls.mono (plain_c ((v.kid 1).kid 1) 32 _ _ HPZ.out.rd) ?_
      rintro e w4 ⟨rfl, hB⟩
      have HX := Lib.hid (below_then HX.out hB)
      have hbx := box_below hbx hB (Array.getElem?_eq_some_iff.1 hbx).1
      have hrx := box_below hrx hB (Array.getElem?_eq_some_iff.1 hrx).1
      clear hB hc0 hc1 hc2 hc3 hc4 z0 z1 z2 z3 z4 m4 HPX HPZ
      rw [HR.out]
      generalize rC2 v = r2 at *
      go_wp2_with fail
      go_meet
      exact ⟨rfl, HX.out, hbx, hrx⟩
    case rest =>
      obtain ⟨rfl, HX, hbx, hrx⟩ := hcut
      have hsz := (Array.getElem?_eq_some_iff.1 hrx).1
      have hc0 := (boxed hbx) 0 _ rfl; have hc1 := (boxed hbx) 1 _ rfl; have hc2 := (boxed hbx) 2 _ rfl; have hc3 := (boxed hbx) 3 _ rfl; have hc4 := (boxed hbx) 4 _ rfl
      have hr0 := (boxed hrx) 0 _ rfl; have hr1 := (boxed hrx) 1 _ rfl
      have hf0 := boxed_frozen hrx 0; have hf1 := boxed_frozen hrx 1
      cases r2 : rC2 v
      case true =>
        have HR : Hid (rgetK v = some (false, ((v.kid 1).kid 1).data)) := by show _ = _; rw [rgetK_parts, R1.out, r2]; rfl
        have hh := r2
        rw [rC2] at hh
        simp only [Bool.and_eq_true, beq_iff_eq] at hh
        have hn3 : n3 = 2 := by rw [← HN.out, hh.1.1.1.2]
        have hk2 := hh.1.2
        clear r2 hh
        subst hn3
        obtain ⟨kbm, kom, mA1, mn1, mc1, mA2, mn2, mc2, mA3, mn3, mc3, hAm, hbm, hpm, m0, m1, m2, m3, m4⟩ := kid_at' (t := v) (k := 1) (Rep.sl_below HPS.out.2.2 HX.out hS) (by omega)
        simp only [show 1 * 5 = 5 from rfl, Nat.add_assoc, Nat.reduceAdd] at m0 m1 m2 m3 m4
        subst hAm
        have hm3 : mn3 = 2 := by rw [← hpm.2.2.1, hk2]
        subst hm3
        obtain ⟨kbz, koz, zA1, zn1, zc1, zA2, zn2, zc2, zA3, zn3, zc3, hAz, hbz, hpz, z0, z1, z2, z3, z4⟩ := kid_at' (t := (v.kid 1)) (k := 1) hpm.2.2 (by omega)
        simp only [show 1 * 5 = 5 from rfl, Nat.add_assoc, Nat.reduceAdd] at z0 z1 z2 z3 z4
        subst hAz
        have HD : Hid (Rep.u8.sl wc S zA2 zn2 zc2 ((v.kid 1).kid 1).data) := hpz.2.1
        have hmc := hpm.2.2.2.1
        clear hpm hpz hk2
        go_wp2
        rw [HR.out]
        exact keyOkS_ret (k := (false, ((v.kid 1).kid 1).data)) (w2 := wc) (g := w.heap.size + 1) (by simp [results, Tryd.results23, go_sem, put2, hr0, hr1]) rfl HD.out (fun b hb => by have := hS b hb; omega) HX.out (by omega) hsz
      have HR : Hid (rgetK v = none) := by show _ = _; rw [rgetK_parts, R1.out, r2]; rfl
      clear r2
      go_wp2
      rw [HR.out]
      exact keyOkS_ret (k := (false, [])) (w2 := wc) (g := w.heap.size + 1) (by simp [results, Tryd.results23, go_sem, put2, hr0, hr1]) rfl (Rep.sl_nil) (fun b hb => by have := hS b hb; omega) HX.out (by omega) hsz
theorem rkget_c (v : Tree) (w : World) (cs : List Value) (h : Rep.tree.rd w (fun b => b < w.heap.size) cs v) :
    Calls Tryd.prog 23 #[.agg cs.toArray] w (KeyOk w 0 (keyOr (rgetK v)) (rgetK v).isSome) :=
  (rkget_S v w _ (fun _ h => h) cs h).mono fun e w' ⟨A, n, c, he, hs, hB⟩ => ⟨A, n, c, he, Rep.sl_more hs fun b hb => ⟨Nat.zero_le _, Nat.lt_of_lt_of_le hb hB.size⟩, hB⟩
end Go.Proofs.YtdakeodebgggfaaDoor
