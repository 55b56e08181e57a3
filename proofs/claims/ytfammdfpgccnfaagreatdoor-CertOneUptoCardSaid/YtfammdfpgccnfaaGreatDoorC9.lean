/- Parts of the proof, laid together. -/
import Derived.Test.YtfammdfpgccnfaaGreatDoorC8
set_option linter.unusedVariables false
set_option linter.unusedSimpArgs false
set_option maxRecDepth 100000
set_option maxHeartbeats 8000000
/- The laws of certificates, on. -/
namespace Go.Proofs.YtfammdfpgccnfaaGreatDoor
open Go.RowKit
def Wd.big (w : Wd) : Nat := if (-9223372036854775808 ≤ w.frm ∧ w.frm ≤ 9223372036854775807) ∧ (-9223372036854775808 ≤ w.to ∧ w.to ≤ 9223372036854775807) then 0 else 10000000
theorem big_64 {w : Wd} (h : w.big ≤ 2000000) : w.in64 := by
  unfold Wd.big at h
  split at h
  · assumption
  · omega
def Ct.wt (c : Ct) : Nat := c.tag.wt + c.win.big
theorem wt_both {c : Ct} (h : c.wt ≤ 2000000) : c.tag.wt ≤ 2000000 ∧ c.win.in64 := by
  unfold Ct.wt at h
  exact ⟨by omega, big_64 (by omega)⟩
section
variable {G : Nat → Option (List D)}
theorem certsame_m (hG : G 0 = some powD) (a b : Ct) (ha : a.wt ≤ 2000000) (hb : b.wt ≤ 2000000) : Spec Tryz.prog G 3 [.g (ctC a), .g (ctC b)] (.one (.c (.v (.bool true)))) := by
  have hw := awake17_m (G := G) hG
  obtain ⟨wa, ia⟩ := wt_both ha
  obtain ⟨wb, ib⟩ := wt_both hb
  have g1 := rcgreat_m (G := G) a (by omega) rfl
  have g2 := rcgreat_m (G := G) b (by omega) rfl
  have fa := fun h => great_fit (c := a) h wa ia
  have fb := fun h => great_fit (c := b) h wb ib
  obtain ⟨a0, a1, a2, a3, a4, a5, a6, a7, a8, a9, a10, a11, a12, a13, a14, a15, a16, a17, a18, a19, a20, a21, a22, a23, hca⟩ := ct_law a
  obtain ⟨b0, b1, b2, b3, b4, b5, b6, b7, b8, b9, b10, b11, b12, b13, b14, b15, b16, b17, b18, b19, b20, b21, b22, b23, hcb⟩ := ct_law b
  rw [hca] at g1
  rw [hcb] at g2
  cases hga : a.great with
  | true =>
    rw [hga] at g1
    rw [hca, hcb]
    clear hca hcb fa fb
    refine spec_of Tryz.func3 rfl rfl rfl (by kernel_rfl) rfl fun K => ?_
    (repeat' (first | with_reducible (first | refine zA fun Kn hK => ?_ | refine zB (by kernel_rfl) ?_ | refine Nx.go ?_ | go_step) | (refine ⟨_, g1, ?_⟩) | (refine ⟨_, g2, ?_⟩) | (refine ⟨_, hw, ?_⟩) | with_reducible (first | refine zI ?_ | refine zJ ?_ | refine zK ?_ ?_ | refine zL ?_ ?_ | refine zR (by kernel_rfl) ?_) | simp (maxSteps := 9999999) (disch := omega) only [wq] | (with_reducible refine zM (fun hb => ?_) (fun hb => ?_) <;> (try simp only [hb])) | (with_reducible refine And.intro (by first | omega | (simp; done) | (simp; omega)) ?_) | simp (maxSteps := 9999999) (implicitDefEqProofs := false) only [go_sem, decide_true] | fail))
  | false =>
    rw [hga] at g1
    have fa := fa hga
    cases hgb : b.great with
    | true =>
      rw [hgb] at g2
      rw [hca, hcb]
      clear hca hcb fa fb
      refine spec_of Tryz.func3 rfl rfl rfl (by kernel_rfl) rfl fun K => ?_
      (repeat' (first | with_reducible (first | refine zA fun Kn hK => ?_ | refine zB (by kernel_rfl) ?_ | refine Nx.go ?_ | go_step) | (refine ⟨_, g1, ?_⟩) | (refine ⟨_, g2, ?_⟩) | (refine ⟨_, hw, ?_⟩) | with_reducible (first | refine zI ?_ | refine zJ ?_ | refine zK ?_ ?_ | refine zL ?_ ?_ | refine zR (by kernel_rfl) ?_) | simp (maxSteps := 9999999) (disch := omega) only [wq] | (with_reducible refine zM (fun hb => ?_) (fun hb => ?_) <;> (try simp only [hb])) | (with_reducible refine And.intro (by first | omega | (simp; done) | (simp; omega)) ?_) | simp (maxSteps := 9999999) (implicitDefEqProofs := false) only [go_sem, decide_true] | fail))
    | false =>
      rw [hgb] at g2
      have fb := fb hgb
      have s1 := csame_m (G := G) a b fa fb rfl rfl
      have s2 := rcsame_m (G := G) a b fa fb rfl rfl
      have s3 := csame_m (G := G) a a fa fa rfl rfl
      rw [show (a.ks == b.ks && a.kd == b.kd && (a.label == b.label && (a.sub.same b.sub && (a.dlg == b.dlg && (a.tag.same b.tag && decide (a.win = b.win)))))) = ctSame a b from rfl] at s1
      rw [show (a.ks == a.ks && a.kd == a.kd && (a.label == a.label && (a.sub.same a.sub && (a.dlg == a.dlg && (a.tag.same a.tag && decide (a.win = a.win)))))) = ctSame a a from rfl, ctSame_refl] at s3
      generalize ctSame a b = q at *
      rw [hca, hcb] at s1 s2
      rw [hca] at s3
      rw [hca, hcb]
      clear hca hcb fa fb
      have eq : (q == q) = true := by simp
      refine spec_of Tryz.func3 rfl rfl rfl (by kernel_rfl) rfl fun K => ?_
      (repeat' (first | with_reducible (first | refine zA fun Kn hK => ?_ | refine zB (by kernel_rfl) ?_ | refine Nx.go ?_ | go_step) | (refine ⟨_, g1, ?_⟩) | (refine ⟨_, g2, ?_⟩) | (refine ⟨_, s1, ?_⟩) | (refine ⟨_, s2, ?_⟩) | (refine ⟨_, s3, ?_⟩) | (refine ⟨_, hw, ?_⟩) | with_reducible (first | refine zI ?_ | refine zJ ?_ | refine zK ?_ ?_ | refine zL ?_ ?_ | refine zR (by kernel_rfl) ?_) | simp (maxSteps := 9999999) (disch := omega) only [wq] | (with_reducible refine zM (fun hb => ?_) (fun hb => ?_) <;> (try simp only [hb])) | (with_reducible refine And.intro (by first | omega | (simp; done) | (simp; omega)) ?_) | simp (maxSteps := 9999999) (implicitDefEqProofs := false) only [go_sem, eq, decide_true] | fail))
theorem certone_m (hG : G 0 = some powD) (a b : Ct) (ha : a.wt ≤ 2000000) (hb : b.wt ≤ 2000000) : Spec Tryz.prog G 4 [.g (ctC a), .g (ctC b)] (.one (.c (.v (.bool true)))) := by
  have hw := awake17_m (G := G) hG
  obtain ⟨wa, ia⟩ := wt_both ha
  obtain ⟨wb, ib⟩ := wt_both hb
  have g1 := rcgreat_m (G := G) a (by omega) rfl
  have g2 := rcgreat_m (G := G) b (by omega) rfl
  have fa := fun h => great_fit (c := a) h wa ia
  have fb := fun h => great_fit (c := b) h wb ib
  obtain ⟨s1, s2, s3, s4, s5, hs⟩ := sb_cells a.sub
  obtain ⟨t0, t1, t2, t3, t4, t5, t6, t7, t8, t9, ht⟩ := tag_cells a.tag
  have hca : ctC a = [.v (.bool a.ks), bytesD a.kd, bytesD a.label, .v (.int .u8 (a.sub.kind.toNat : Int)), s1, s2, s3, s4, s5, .v (.bool a.dlg), t0, t1, t2, t3, t4, t5, t6, t7, t8, t9, .v (.bool a.win.aft), .v (.int .i64 a.win.frm), .v (.bool a.win.unt), .v (.int .i64 a.win.to)] := by
    unfold ctC wdC
    rw [hs, ht]
    rfl
  clear hs ht
  obtain ⟨b0, b1, b2, b3, b4, b5, b6, b7, b8, b9, b10, b11, b12, b13, b14, b15, b16, b17, b18, b19, b20, b21, b22, b23, hcb⟩ := ct_law b
  rw [hca] at g1
  rw [hcb] at g2
  cases hga : a.great with
  | true =>
    rw [hga] at g1
    rw [hca, hcb]
    clear hca hcb fa fb
    simp only [bD, bytesD] at *
    refine spec_of Tryz.func4 rfl rfl rfl (by kernel_rfl) rfl fun K => ?_
    (repeat' (first | with_reducible (first | refine zA fun Kn hK => ?_ | refine zB (by kernel_rfl) ?_ | refine Nx.go ?_ | go_step) | (refine ⟨_, g1, ?_⟩) | (refine ⟨_, g2, ?_⟩) | (refine ⟨_, hw, ?_⟩) | with_reducible (first | refine zI ?_ | refine zJ ?_ | refine zK ?_ ?_ | refine zL ?_ ?_ | refine zR (by kernel_rfl) ?_) | simp (maxSteps := 9999999) (disch := omega) only [wq] | (with_reducible refine zM (fun hb => ?_) (fun hb => ?_) <;> (try simp only [hb])) | (with_reducible refine And.intro (by first | omega | (simp; done) | (simp; omega)) ?_) | simp (maxSteps := 9999999) (implicitDefEqProofs := false) only [go_sem, decide_true] | fail))
  | false =>
    rw [hga] at g1
    have fa := fa hga
    cases hgb : b.great with
    | true =>
      rw [hgb] at g2
      rw [hca, hcb]
      clear hca hcb fa fb
      simp only [bD, bytesD] at *
      refine spec_of Tryz.func4 rfl rfl rfl (by kernel_rfl) rfl fun K => ?_
      (repeat' (first | with_reducible (first | refine zA fun Kn hK => ?_ | refine zB (by kernel_rfl) ?_ | refine Nx.go ?_ | go_step) | (refine ⟨_, g1, ?_⟩) | (refine ⟨_, g2, ?_⟩) | (refine ⟨_, hw, ?_⟩) | with_reducible (first | refine zI ?_ | refine zJ ?_ | refine zK ?_ ?_ | refine zL ?_ ?_ | refine zR (by kernel_rfl) ?_) | simp (maxSteps := 9999999) (disch := omega) only [wq] | (with_reducible refine zM (fun hb => ?_) (fun hb => ?_) <;> (try simp only [hb])) | (with_reducible refine And.intro (by first | omega | (simp; done) | (simp; omega)) ?_) | simp (maxSteps := 9999999) (implicitDefEqProofs := false) only [go_sem, decide_true] | fail))
    | false =>
      rw [hgb] at g2
      have fb := fb hgb
      have p1 := cput_m (G := G) hG a rfl fa
      have p2 := cput_m (G := G) hG b rfl fb
      have k1 := csame_m (G := G) a b fa fb rfl rfl
      rw [show (a.ks == b.ks && a.kd == b.kd && (a.label == b.label && (a.sub.same b.sub && (a.dlg == b.dlg && (a.tag.same b.tag && decide (a.win = b.win)))))) = ctSame a b from rfl] at k1
      unfold cputD at p1 p2
      have n0 := len0_empty a.label
      have e3 : ((a.sub.kind.toNat : Int) == 3) = decide (a.sub.kind = 3) := by
        have := u8_beq a.sub.kind 3
        rw [show ((3 : UInt8).toNat : Int) = 3 from rfl] at this
        rw [this]
        exact Bool.beq_eq_decide_eq _ _
      cases hma : a.may with
      | false =>
        rw [hma] at p1
        rw [if_neg (by decide), if_neg (by decide), zeroT_C] at p1
        generalize (if b.may = true then b.val else zeroT) = VB at *
        generalize (if b.may = true then (0 : Int) else 3) = EB at *
        rw [treeC_eq VB] at p2
        rw [hca] at p1
        rw [hcb] at p2
        rw [hca, hcb]
        clear hca hcb fa fb k1 n0 e3
        simp only [bD, bytesD] at *
        refine spec_of Tryz.func4 rfl rfl rfl (by kernel_rfl) rfl fun K => ?_
        (repeat' (first | with_reducible (first | refine zA fun Kn hK => ?_ | refine zB (by kernel_rfl) ?_ | refine Nx.go ?_ | go_step) | (refine ⟨_, g1, ?_⟩) | (refine ⟨_, g2, ?_⟩) | (refine ⟨_, p1, ?_⟩) | (refine ⟨_, p2, ?_⟩) | (refine ⟨_, hw, ?_⟩) | with_reducible (first | refine zI ?_ | refine zJ ?_ | refine zK ?_ ?_ | refine zL ?_ ?_ | refine zR (by kernel_rfl) ?_) | simp (maxSteps := 9999999) (disch := omega) only [wq] | (with_reducible refine zM (fun hb => ?_) (fun hb => ?_) <;> (try simp only [hb])) | (with_reducible refine And.intro (by first | omega | (simp; done) | (simp; omega)) ?_) | simp (maxSteps := 9999999) (implicitDefEqProofs := false) only [go_sem, decide_true, bne, Bool.not_true, Bool.not_false] | fail))
      | true =>
        rw [hma] at p1
        rw [if_pos rfl, if_pos rfl] at p1
        cases hmb : b.may with
        | false =>
          rw [hmb] at p2
          rw [if_neg (by decide), if_neg (by decide), zeroT_C] at p2
          rw [treeC_eq a.val] at p1
          rw [hca] at p1
          rw [hcb] at p2
          rw [hca, hcb]
          clear hca hcb fa fb k1 n0 e3
          generalize a.val = VA at *
          simp only [bD, bytesD] at *
          refine spec_of Tryz.func4 rfl rfl rfl (by kernel_rfl) rfl fun K => ?_
          (repeat' (first | with_reducible (first | refine zA fun Kn hK => ?_ | refine zB (by kernel_rfl) ?_ | refine Nx.go ?_ | go_step) | (refine ⟨_, g1, ?_⟩) | (refine ⟨_, g2, ?_⟩) | (refine ⟨_, p1, ?_⟩) | (refine ⟨_, p2, ?_⟩) | (refine ⟨_, hw, ?_⟩) | with_reducible (first | refine zI ?_ | refine zJ ?_ | refine zK ?_ ?_ | refine zL ?_ ?_ | refine zR (by kernel_rfl) ?_) | simp (maxSteps := 9999999) (disch := omega) only [wq] | (with_reducible refine zM (fun hb => ?_) (fun hb => ?_) <;> (try simp only [hb])) | (with_reducible refine And.intro (by first | omega | (simp; done) | (simp; omega)) ?_) | simp (maxSteps := 9999999) (implicitDefEqProofs := false) only [go_sem, decide_true, bne, Bool.not_true, Bool.not_false] | fail))
        | true =>
          rw [hmb] at p2
          rw [if_pos rfl, if_pos rfl] at p2
          rw [Ct.may, Bool.and_eq_true] at hma hmb
          have hva := may_wt hma.2
          have q1 := sameref_m (G := G) a.val b.val _ _ rfl rfl (by omega)
          have hq : a.val.same b.val = ctSame a b := by
            rw [Bool.eq_iff_iff]
            refine ⟨fun h => ctSame_iff.2 (val_inj hma.1 hmb.1 (same_of h)), fun h => ?_⟩
            rw [ctSame_iff.1 h]
            exact same_t rfl
          rw [hq] at q1
          clear hq
          have hrest : emptyL a.label = false → a.dlg = false ∧ decide (a.sub.kind = 3) = false := fun h => by
            have := (okC hma.1).2.2.1
            unfold rOk at this
            rw [h, if_neg (by decide)] at this
            simp only [Bool.and_eq_true, Bool.not_eq_true'] at this
            exact ⟨this.1, this.2.2⟩
          generalize ctSame a b = q at *
          have eq : (q == q) = true := by simp
          clear hva hma hmb fa fb
          generalize a.val = VA at *
          generalize b.val = VB at *
          rw [treeC_eq VA] at p1 q1
          rw [treeC_eq VB] at p2 q1
          rw [hca] at p1 k1
          rw [hcb] at p2 k1
          rw [hca, hcb]
          clear hca hcb
          cases hl : emptyL a.label with
          | true =>
            rw [hl] at n0
            clear hrest hl
            simp only [bD, bytesD] at *
            refine spec_of Tryz.func4 rfl rfl rfl (by kernel_rfl) rfl fun K => ?_
            (repeat' (first | with_reducible (first | refine zA fun Kn hK => ?_ | refine zB (by kernel_rfl) ?_ | refine Nx.go ?_ | go_step) | (refine ⟨_, g1, ?_⟩) | (refine ⟨_, g2, ?_⟩) | (refine ⟨_, p1, ?_⟩) | (refine ⟨_, p2, ?_⟩) | (refine ⟨_, q1, ?_⟩) | (refine ⟨_, k1, ?_⟩) | (refine ⟨_, hw, ?_⟩) | with_reducible (first | refine zI ?_ | refine zJ ?_ | refine zK ?_ ?_ | refine zL ?_ ?_ | refine zR (by kernel_rfl) ?_) | simp (maxSteps := 9999999) (disch := omega) only [wq] | (with_reducible refine zM (fun hb => ?_) (fun hb => ?_) <;> (try simp only [hb])) | (with_reducible refine And.intro (by first | omega | (simp; done) | (simp; omega)) ?_) | simp (maxSteps := 9999999) (implicitDefEqProofs := false) only [go_sem, n0, eq, decide_true, bne, Bool.not_true, Bool.not_false] | fail))
          | false =>
            obtain ⟨h1, h2⟩ := hrest hl
            rw [hl] at n0
            rw [h2] at e3
            rw [h1] at g1 p1 k1
            rw [h1]
            clear hrest hl h1 h2
            simp only [bD, bytesD] at *
            refine spec_of Tryz.func4 rfl rfl rfl (by kernel_rfl) rfl fun K => ?_
            (repeat' (first | with_reducible (first | refine zA fun Kn hK => ?_ | refine zB (by kernel_rfl) ?_ | refine Nx.go ?_ | go_step) | (refine ⟨_, g1, ?_⟩) | (refine ⟨_, g2, ?_⟩) | (refine ⟨_, p1, ?_⟩) | (refine ⟨_, p2, ?_⟩) | (refine ⟨_, q1, ?_⟩) | (refine ⟨_, k1, ?_⟩) | (refine ⟨_, hw, ?_⟩) | with_reducible (first | refine zI ?_ | refine zJ ?_ | refine zK ?_ ?_ | refine zL ?_ ?_ | refine zR (by kernel_rfl) ?_) | simp (maxSteps := 9999999) (disch := omega) only [wq] | (with_reducible refine zM (fun hb => ?_) (fun hb => ?_) <;> (try simp only [hb])) | (with_reducible refine And.intro (by first | omega | (simp; done) | (simp; omega)) ?_) | simp (maxSteps := 9999999) (implicitDefEqProofs := false) only [go_sem, n0, e3, eq, decide_true, bne, Bool.not_true, Bool.not_false] | fail))
end
end Go.Proofs.YtfammdfpgccnfaaGreatDoor
/- Certificates and entries, opened as a row's arguments. -/
namespace Go.Proofs.YtfammdfpgccnfaaGreatDoor
open Go.ChangeShapes Go.WideShapes Go.ChangeAt Go.RowKit Go.Deep
theorem in64_big {w : Wd} (h : w.in64) : w.big = 0 := by
  unfold Wd.in64 at h
  unfold Wd.big
  rw [if_pos h]
section
variable {P : Program} {t : TypeId}
theorem opensN_cert {tK tB tS tb tT tW ti ty : TypeId} {fs fk fw : Array Field} (ht : P.underlying t = some (.struct fs)) (hf : fs.toList.map (fun f => (f.type, f.offset)) = [(tK, 0), (tB, 2), (tS, 3), (tb, 9), (tT, 10), (tW, 20)]) (hc : P.cellsOf t = 24)
    (hK : P.underlying tK = some (.struct fk)) (hfk : fk.toList.map (fun f => (f.type, f.offset)) = [(tb, 0), (tB, 1)]) (cK : P.cellsOf tK = 2)
    (hB : P.underlying tB = some (.slice ty)) (cB : P.cellsOf tB = 1) (hy : P.underlying ty = some (.int .u8)) (cy : P.cellsOf ty = 1)
    (hS : ∀ fuel, OpensN P fuel tS Rep.sb (fun _ => 0)) (cS : P.cellsOf tS = 6) (hT : ∀ fuel, OpensN P fuel tT Rep.tag Tg.wt) (cT : P.cellsOf tT = 10) (hb : P.underlying tb = some .bool) (cb : P.cellsOf tb = 1)
    (hW : P.underlying tW = some (.struct fw)) (hfw : fw.toList.map (fun f => (f.type, f.offset)) = [(tb, 0), (ti, 1), (tb, 2), (ti, 3)]) (cW : P.cellsOf tW = 4) (hi : P.underlying ti = some (.int .i64)) (ci : P.cellsOf ti = 1) (fuel : Nat) :
    OpensN P fuel t Rep.cert Ct.wt := by
  intro H enc w sp held cs x h
  obtain ⟨m, xs, rfl, hx, hlx, hcl, hg⟩ := field_at ht h hf
  rw [hc] at hcl
  match xs, hlx, cs, hcl with
  | [x4, x5, x0, x1, x2, x3], _, [c0, c1, c2, c3, c4, c5, c6, c7, c8, c9, c10, c11, c12, c13, c14, c15, c16, c17, c18, c19, c20, c21, c22, c23], _ =>
    have e4 := hg 0 _ _ rfl rfl
    have e5 := hg 1 _ _ rfl rfl
    have e0 := hg 2 _ _ rfl rfl
    have e1 := hg 3 _ _ rfl rfl
    have e2 := hg 4 _ _ rfl rfl
    have e3 := hg 5 _ _ rfl rfl
    dsimp only at e0 e1 e2 e3 e4 e5
    rw [cK] at e4
    rw [cB] at e5
    rw [cS] at e0
    rw [cb] at e1
    rw [cT] at e2
    rw [cW] at e3
    obtain ⟨b4, y4, A4, n4, k4, q4, s4⟩ := key_at hK hfk cK hb cb hB cB hy cy e4
    obtain ⟨y5, A5, n5, k5, q5, s5, _⟩ := bytes_at hB hy cy e5
    obtain ⟨y0, r0, _⟩ := hS _ _ _ _ _ _ _ _ e0
    obtain ⟨b1, q1, _⟩ := DataW.trod_bool hb e1
    obtain ⟨y2, r2, w2⟩ := hT _ _ _ _ _ _ _ _ e2
    obtain ⟨v3, q3, i3⟩ := win_at hW hfw cW hb cb hi ci e3
    simp only [List.drop_zero, List.drop_succ_cons, List.take_succ_cons, List.take_zero, List.cons.injEq, and_true] at r0 q1 r2 q3 q4 q5
    obtain ⟨q4a, q4b⟩ := q4
    subst q1 q4a q4b q5
    refine ⟨⟨b4, y4, y5, y0, b1, y2, v3⟩, ⟨A4, n4, k4, A5, n5, k5, _, rfl, s4, s5, [c3, c4, c5, c6, c7, c8], [c10, c11, c12, c13, c14, c15, c16, c17, c18, c19], ?_, r0, r2⟩, ?_⟩
    · rw [← q3]
      rfl
    · have hb := in64_big i3
      unfold Ct.wt
      dsimp only
      rw [hx]
      simp only [Rows.uptoBulk, Rows.uptoBulkAll, List.map_cons, List.map_nil]
      omega
end
theorem opens_sb (fuel : Nat) : OpensN Tryz.prog fuel 28 Rep.sb (fun _ => 0) :=
  opensN_sb Tryz.underlying28 (by kernel_rfl) (by kernel_rfl) Tryz.underlying24 (by kernel_rfl) (by kernel_rfl) Tryz.underlying5 (by kernel_rfl) Tryz.underlying4 Tryz.underlying22 Tryz.underlying5 Tryz.underlying26 Tryz.underlying25 (by kernel_rfl) Tryz.underlying3 (by kernel_rfl) (by kernel_rfl) (by kernel_rfl) (by kernel_rfl) (by kernel_rfl) fuel
theorem opens_cert (fuel : Nat) : OpensN Tryz.prog fuel 39 Rep.cert Ct.wt :=
  opensN_cert Tryz.underlying39 (by kernel_rfl) (by kernel_rfl) Tryz.underlying24 (by kernel_rfl) (by kernel_rfl) Tryz.underlying22 (by kernel_rfl) Tryz.underlying5 (by kernel_rfl) opens_sb (by kernel_rfl) opens_tag (by kernel_rfl) Tryz.underlying4 (by kernel_rfl) Tryz.underlying37 (by kernel_rfl) (by kernel_rfl) Tryz.underlying2 (by kernel_rfl) fuel
theorem cellsOf_sb : CellsOf Rep.sb sbC := by
  intro w S cs y h
  revert cs
  refine Sb.ind (P := fun y => ∀ {cs : List Value}, Rep.sb.rd w S cs y → CellsR w S (sbC y) cs) (fun t ih cs h => ?_) y
  have h : Sb.rd w S cs t := h
  rw [Sb.rd] at h
  obtain ⟨A1, n1, c1, A2, n2, c2, A3, n3, c3, rfl, h1, h2, h3, h4, h5, h6⟩ := h
  rw [sbC_eq]
  refine cellsR_cons (.v _ rfl) (cellsR_cons (.v _ rfl) (cellsR_cons (rd_bytes h1) (cellsR_cons ?_ (cellsR_cons (.v _ rfl) (cellsR_cons ?_ cellsR_nil)))))
  · have := rd_slice (r := Rep.u8.slice) (f := fun x => [bytesD x]) (fun _ => rfl) (fun {y cs} _ hr => ?_) h2
    · rwa [show (t.names.flatMap fun x => [bytesD x]) = t.names.map bytesD from by induction t.names with | nil => rfl | cons x l ih => rw [List.flatMap_cons, ih]; rfl] at this
    · obtain ⟨A, n, c, rfl, hs⟩ := hr
      exact cellsR_cons (rd_bytes hs) cellsR_nil
  · exact rd_slice (r := Rep.sb) sbC_len (fun hy hr => ih _ hy hr) ⟨h3, h4, h5, h6⟩
theorem cellsR_wd {w : World} {S : Nat → Prop} (v : Wd) : CellsR w S (wdC v) (wdV v) := by
  unfold wdC wdV
  exact cellsR_cons (.v _ rfl) (cellsR_cons (.v _ rfl) (cellsR_cons (.v _ rfl) (cellsR_cons (.v _ rfl) cellsR_nil)))
theorem cellsOf_cert : CellsOf Rep.cert ctC := by
  intro w S cs y h
  obtain ⟨A1, n1, c1, A2, n2, c2, l, rfl, h1, h2, l1, l2, rfl, h3, h4⟩ := h
  exact cellsR_cons (.v _ rfl) (cellsR_cons (rd_bytes h1) (cellsR_cons (rd_bytes h2) (cellsR_app (cellsOf_sb h3) (cellsR_cons (.v _ rfl) (cellsR_app (cellsOf_tag h4) (cellsR_wd _))))))
end Go.Proofs.YtfammdfpgccnfaaGreatDoor
