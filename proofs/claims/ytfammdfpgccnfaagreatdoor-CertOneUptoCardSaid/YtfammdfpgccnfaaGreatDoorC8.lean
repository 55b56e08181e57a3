/- Parts of the proof, laid together. -/
import Derived.Test.YtfammdfpgccnfaaGreatDoorC7
set_option linter.unusedVariables false
set_option linter.unusedSimpArgs false
set_option maxRecDepth 100000
set_option maxHeartbeats 8000000
/- Tags: the document's tag of a value, on. -/
namespace Go.Proofs.YtfammdfpgccnfaaGreatDoor
open Go.RowKit
section
variable {G : Nat → Option (List D)}
end
end Go.Proofs.YtfammdfpgccnfaaGreatDoor
/- Tags: the document's example. -/
namespace Go.Proofs.YtfammdfpgccnfaaGreatDoor
open Go.RowKit
section
variable {G : Nat → Option (List D)}
end
end Go.Proofs.YtfammdfpgccnfaaGreatDoor
/- The laws of tags. -/
namespace Go.Proofs.YtfammdfpgccnfaaGreatDoor
open Go.RowKit
theorem great_nodes {t : Tg} (h : t.great 0 = false) : t.nodes ≤ 1000 := by
  rw [Tg.great_eq] at h
  simp at h
  omega
section
variable {G : Nat → Option (List D)}
end
end Go.Proofs.YtfammdfpgccnfaaGreatDoor
/- The laws of tags, on. -/
namespace Go.Proofs.YtfammdfpgccnfaaGreatDoor
open Go.RowKit
section
variable {G : Nat → Option (List D)}
end
end Go.Proofs.YtfammdfpgccnfaaGreatDoor
/- Certificates: the program's Get, Same. -/
namespace Go.Proofs.YtfammdfpgccnfaaGreatDoor
open Go.RowKit
theorem ct_lit (c : Ct) : ∃ a b d : D, ∃ k : UInt8, ∃ s1 s2 s3 s4 s5 : D, ∃ g : Bool, ∃ t0 t1 t2 t3 t4 t5 t6 t7 t8 t9 w0 w1 w2 w3 : D, ctC c = [a, b, d, .v (.int .u8 (k.toNat : Int)), s1, s2, s3, s4, s5, .v (.bool g), t0, t1, t2, t3, t4, t5, t6, t7, t8, t9, w0, w1, w2, w3] := by
  obtain ⟨s1, s2, s3, s4, s5, hs⟩ := sb_cells c.sub
  obtain ⟨t0, t1, t2, t3, t4, t5, t6, t7, t8, t9, ht⟩ := tag_cells c.tag
  unfold ctC wdC
  rw [hs, ht]
  exact ⟨_, _, _, _, _, _, _, _, _, _, _, _, _, _, _, _, _, _, _, _, _, _, _, _, rfl⟩
section
variable {G : Nat → Option (List D)}
theorem csame_m (a b : Ct) (ha : a.fit) (hb : b.fit) {cs ds : List D} (hcs : ctC a = cs) (hds : ctC b = ds) : Spec Tryz.prog G 13 [.g cs, .g ds] (.one (.c (.v (.bool (a.ks == b.ks && a.kd == b.kd && (a.label == b.label && (a.sub.same b.sub && (a.dlg == b.dlg && (a.tag.same b.tag && decide (a.win = b.win)))))))))) := by
  subst hcs hds
  have k1 := ksame_m (G := G) a.ks b.ks a.kd b.kd
  have k2 := equal_m (G := G) a.label b.label
  have k3 := ssame_m (G := G) a.sub b.sub _ _ rfl rfl ha.sub
  have k4 := tsame_m (G := G) a.tag b.tag _ _ rfl rfl (by have := ha.wt; omega)
  have w1 := win_key ha.win
  have w2 := win_key hb.win
  obtain ⟨s1, s2, s3, s4, s5, hs⟩ := sb_cells a.sub
  obtain ⟨t0, t1, t2, t3, t4, t5, t6, t7, t8, t9, ht⟩ := tag_cells a.tag
  obtain ⟨u1, u2, u3, u4, u5, hu⟩ := sb_cells b.sub
  obtain ⟨v0, v1, v2, v3, v4, v5, v6, v7, v8, v9, hv⟩ := tag_cells b.tag
  have hca : ctC a = [.v (.bool a.ks), bytesD a.kd, bytesD a.label, .v (.int .u8 (a.sub.kind.toNat : Int)), s1, s2, s3, s4, s5, .v (.bool a.dlg), t0, t1, t2, t3, t4, t5, t6, t7, t8, t9, .v (.bool a.win.aft), .v (.int .i64 a.win.frm), .v (.bool a.win.unt), .v (.int .i64 a.win.to)] := by
    unfold ctC wdC
    rw [hs, ht]
    rfl
  have hcb : ctC b = [.v (.bool b.ks), bytesD b.kd, bytesD b.label, .v (.int .u8 (b.sub.kind.toNat : Int)), u1, u2, u3, u4, u5, .v (.bool b.dlg), v0, v1, v2, v3, v4, v5, v6, v7, v8, v9, .v (.bool b.win.aft), .v (.int .i64 b.win.frm), .v (.bool b.win.unt), .v (.int .i64 b.win.to)] := by
    unfold ctC wdC
    rw [hu, hv]
    rfl
  rw [hs, hu] at k3
  rw [ht, hv] at k4
  rw [hca, hcb]
  clear hs ht hu hv hca hcb
  obtain ⟨q, hq⟩ : ∃ q, decide (a.win = b.win) = q := ⟨_, rfl⟩
  have hh : (q = true) ↔ wdLit a.win = wdLit b.win := win_key_eq hq.symm
  rw [hq]
  clear hq ha hb
  generalize (a.ks == b.ks && a.kd == b.kd) = z1 at *
  generalize (a.label == b.label) = z2 at *
  generalize a.sub.same b.sub = z3 at *
  generalize a.tag.same b.tag = z5 at *
  obtain ⟨z4, hz4⟩ : ∃ z, (a.dlg == b.dlg) = z := ⟨_, rfl⟩
  rw [hz4]
  have six : z1 = false ∨ (z1 = true ∧ z2 = false) ∨ (z1 = true ∧ z2 = true ∧ z3 = false) ∨ (z1 = true ∧ z2 = true ∧ z3 = true ∧ z4 = false) ∨ (z1 = true ∧ z2 = true ∧ z3 = true ∧ z4 = true ∧ z5 = false) ∨ (z1 = true ∧ z2 = true ∧ z3 = true ∧ z4 = true ∧ z5 = true) := by cases z1 <;> cases z2 <;> cases z3 <;> cases z4 <;> cases z5 <;> simp
  simp only [keyC, bD, bytesD] at *
  rcases six with rfl | ⟨rfl, rfl⟩ | ⟨rfl, rfl, rfl⟩ | ⟨rfl, rfl, rfl, rfl⟩ | ⟨rfl, rfl, rfl, rfl, rfl⟩ | ⟨rfl, rfl, rfl, rfl, rfl⟩
  all_goals
    refine spec_of Tryz.func13 rfl rfl rfl (by kernel_rfl) rfl fun K => ?_
    (repeat' (first | with_reducible (first | refine zA fun Kn hK => ?_ | refine zB (by kernel_rfl) ?_ | refine Nx.go ?_ | go_step) | (refine ⟨_, k1, ?_⟩) | (refine ⟨_, k2, ?_⟩) | (refine ⟨_, k3, ?_⟩) | (refine ⟨_, k4, ?_⟩) | (refine run_agg_eql (by kernel_rfl) w1 w2 hh ?_) | with_reducible (first | refine zI ?_ | refine zJ ?_ | refine zK ?_ ?_ | refine zL ?_ ?_ | refine zR (by kernel_rfl) ?_) | simp (maxSteps := 9999999) (disch := omega) only [wq] | (with_reducible refine zM (fun hb => ?_) (fun hb => ?_) <;> (try simp only [hb])) | (with_reducible refine And.intro (by first | omega | (simp; done) | (simp; omega)) ?_) | simp (maxSteps := 9999999) (implicitDefEqProofs := false) only [go_sem, hz4, decide_true, bne, Bool.not_true, Bool.not_false] | fail))
    all_goals rfl
end
end Go.Proofs.YtfammdfpgccnfaaGreatDoor
/- Windows: the document's May, end. -/
namespace Go.Proofs.YtfammdfpgccnfaaGreatDoor
open Go.RowKit
section
variable {G : Nat → Option (List D)}
end
end Go.Proofs.YtfammdfpgccnfaaGreatDoor
/- Windows: the document's end. -/
namespace Go.Proofs.YtfammdfpgccnfaaGreatDoor
open Go.RowKit
section
variable {G : Nat → Option (List D)}
end
end Go.Proofs.YtfammdfpgccnfaaGreatDoor
/- Windows: the document's Get. -/
namespace Go.Proofs.YtfammdfpgccnfaaGreatDoor
open Go.RowKit
section
variable {G : Nat → Option (List D)}
end
end Go.Proofs.YtfammdfpgccnfaaGreatDoor
/- The document's subjects: right, small, Great. -/
namespace Go.Proofs.YtfammdfpgccnfaaGreatDoor
open Go.RowKit
@[go_sem] def sbK (s : Sb) : List C := [.d (bD s.kind), .d (.v (.bool s.ks)), .d (bytesD s.kd), .d (.sl s.names.length (s.names.map bytesD)), .d (.v (.int .i64 s.k)), .d (.sl s.kids.length (s.kids.flatMap sbC))]
theorem tk_none {α : Type} {f : α → Bool} {l : List α} {x : α} {k : Nat} (hx : l[k]? = some x) (hq : f x = true) (hall : ∀ y ∈ l.take k, f y = true) : ∀ y ∈ l.take (k + 1), f y = true := by
  intro y hy
  rw [List.take_add_one, hx] at hy
  rcases List.mem_append.1 hy with hy | hy
  · exact hall y hy
  · simp at hy
    rw [hy]
    exact hq
section
variable {G : Nat → Option (List D)}
end
end Go.Proofs.YtfammdfpgccnfaaGreatDoor
/- The document's subjects: Value, May. -/
namespace Go.Proofs.YtfammdfpgccnfaaGreatDoor
open Go.RowKit
section
variable {G : Nat → Option (List D)}
end
end Go.Proofs.YtfammdfpgccnfaaGreatDoor
/- Principals got of values: the reference's way. -/
namespace Go.Proofs.YtfammdfpgccnfaaGreatDoor
open Go.RowKit
end Go.Proofs.YtfammdfpgccnfaaGreatDoor
/- The document's subjects: small, get, Get. -/
namespace Go.Proofs.YtfammdfpgccnfaaGreatDoor
open Go.RowKit
section
variable {G : Nat → Option (List D)}
end
end Go.Proofs.YtfammdfpgccnfaaGreatDoor
/- The document's subjects: Get. -/
namespace Go.Proofs.YtfammdfpgccnfaaGreatDoor
open Go.RowKit
section
variable {G : Nat → Option (List D)}
end
end Go.Proofs.YtfammdfpgccnfaaGreatDoor
/- Certificates: the document's Of, Ends, Rights, named. -/
namespace Go.Proofs.YtfammdfpgccnfaaGreatDoor
open Go.RowKit
section
variable {G : Nat → Option (List D)}
end
end Go.Proofs.YtfammdfpgccnfaaGreatDoor
/- The document's subjects: Same, Great. -/
namespace Go.Proofs.YtfammdfpgccnfaaGreatDoor
open Go.RowKit
theorem take_eq {α : Type} {l m : List α} {k : Nat} {x : α} (hl : l[k]? = some x) (hm : m[k]? = some x) (h : l.take k = m.take k) : l.take (k + 1) = m.take (k + 1) := by
  rw [List.take_add_one, List.take_add_one, hl, hm, h]
def Sb.great (s : Sb) (k : Nat) : Bool := decide (6 < k) || (decide (12 < s.kids.length) || (decide (12 < s.names.length) || (decide (200 < s.kd.length) || ((s.names.any fun n => decide (5000 < n.length)) || s.kids.attach.any fun x => Sb.great x.1 (k + 1)))))
termination_by SizeOf.sizeOf s
decreasing_by exact Sb.kid_lt x.2
theorem Sb.great_eq (s : Sb) (k : Nat) : s.great k = (decide (6 < k) || (decide (12 < s.kids.length) || (decide (12 < s.names.length) || (decide (200 < s.kd.length) || ((s.names.any fun n => decide (5000 < n.length)) || s.kids.any fun x => Sb.great x (k + 1)))))) := by
  rw [Sb.great]
  simp
theorem Sb.fit_of : ∀ (s : Sb) (k : Nat), s.great k = false → s.fit := by
  refine Sb.ind fun s ih k h => ?_
  rw [Sb.great_eq] at h
  simp only [Bool.or_eq_false_iff, decide_eq_false_iff_not, List.any_eq_false, decide_eq_true_eq, Bool.not_eq_true] at h
  obtain ⟨_, h2, h3, h4, h5, h6⟩ := h
  rw [Sb.fit_eq]
  exact ⟨⟨by omega, by omega, by omega, fun n hn => by have := h5 n hn; omega⟩, fun x hx => ih x hx (k + 1) (h6 x hx)⟩
section
variable {G : Nat → Option (List D)}
theorem rsgreat_m : ∀ s : Sb, ∀ (cs : List D) (k : Nat), sbC s = cs → k ≤ 7 → Spec Tryz.prog G 35 [.g cs, .c (.v (.int .i64 (k : Int)))] (.one (.c (.v (.bool (s.great k))))) := Sb.ind fun s ih cs k hcs hk => by
  subst hcs
  have hv := s.great_eq k
  have d0 : decide ((k : Int) > 6) = decide (6 < k) := by rw [decide_eq_decide]; omega
  have d1 : decide ((s.kids.length : Int) > 12) = decide (12 < s.kids.length) := by rw [decide_eq_decide]; omega
  have d2 : decide ((s.names.length : Int) > 12) = decide (12 < s.names.length) := by rw [decide_eq_decide]; omega
  have d3 : decide ((s.kd.length : Int) > 200) = decide (200 < s.kd.length) := by rw [decide_eq_decide]; omega
  rw [sbC_eq]
  obtain ⟨R, hR⟩ : ∃ R, s.great k = R := ⟨_, rfl⟩
  rw [hR] at hv ⊢
  clear hR
  generalize hy0 : decide (6 < k) = y0 at *
  generalize hy1 : decide (12 < s.kids.length) = y1 at *
  generalize hy2 : decide (12 < s.names.length) = y2 at *
  generalize decide (200 < s.kd.length) = y3 at *
  have five : y0 = true ∨ (y0 = false ∧ y1 = true) ∨ (y0 = false ∧ y1 = false ∧ y2 = true) ∨ (y0 = false ∧ y1 = false ∧ y2 = false ∧ y3 = true) ∨ (y0 = false ∧ y1 = false ∧ y2 = false ∧ y3 = false) := by cases y0 <;> cases y1 <;> cases y2 <;> cases y3 <;> simp
  have four : (y0 || (y1 || (y2 || y3))) = true ∨ (y0 = false ∧ y1 = false ∧ y2 = false ∧ y3 = false) := by cases y0 <;> cases y1 <;> cases y2 <;> cases y3 <;> simp
  rcases four with hbad | ⟨rfl, rfl, rfl, rfl⟩
  · have hR : R = true := by
      rw [hv]
      clear five hv d0 d1 d2 d3 hy0 hy1 hy2
      revert hbad
      cases y0 <;> cases y1 <;> cases y2 <;> cases y3 <;> simp
    subst hR
    clear hv ih hy0 hy1 hy2
    simp only [bD, bytesD] at *
    rcases five with rfl | ⟨rfl, rfl⟩ | ⟨rfl, rfl, rfl⟩ | ⟨rfl, rfl, rfl, rfl⟩ | ⟨rfl, rfl, rfl, rfl⟩
    case inr.inr.inr.inr => exact absurd hbad (by decide)
    all_goals
      refine spec_of Tryz.func35 rfl rfl rfl (by kernel_rfl) rfl fun K => ?_
      (repeat' (first | with_reducible (first | refine zA fun Kn hK => ?_ | refine zB (by kernel_rfl) ?_ | refine Nx.go ?_ | go_step) | fail | with_reducible (first | refine zI ?_ | refine zJ ?_ | refine zK ?_ ?_ | refine zL ?_ ?_ | refine zR (by kernel_rfl) ?_) | simp (maxSteps := 9999999) (disch := omega) only [wq] | (with_reducible refine zM (fun hb => ?_) (fun hb => ?_) <;> (try simp only [hb])) | (with_reducible refine And.intro (by first | omega | (simp; done) | (simp; omega)) ?_) | simp (maxSteps := 9999999) (implicitDefEqProofs := false) only [go_sem, d0, d1, d2, d3, decide_true] | fail))
  · clear five
    simp only [Bool.false_or] at hv
    have k6 : ¬ 6 < k := of_decide_eq_false hy0
    have k12 : ¬ 12 < s.kids.length := of_decide_eq_false hy1
    have n12 : ¬ 12 < s.names.length := of_decide_eq_false hy2
    clear hy0 hy1 hy2
    simp only [bD, bytesD] at *
    refine spec_of Tryz.func35 rfl rfl rfl (by kernel_rfl) rfl fun K => ?_
    (repeat' (first | with_reducible (first | refine zA fun Kn hK => ?_ | refine zB (by kernel_rfl) ?_ | refine Nx.go ?_ | go_step) | fail | with_reducible (first | refine zI ?_ | refine zJ ?_ | refine zK ?_ ?_ | refine zL ?_ ?_ | refine zR (by kernel_rfl) ?_) | simp (maxSteps := 9999999) (disch := omega) only [wq] | (with_reducible refine zM (fun hb => ?_) (fun hb => ?_) <;> (try simp only [hb])) | (with_reducible refine And.intro (by first | omega | (simp; done) | (simp; omega)) ?_) | simp (maxSteps := 9999999) (implicitDefEqProofs := false) only [go_sem, d0, d1, d2, d3, decide_true] | fail))
    refine sound_loopR (fun x : {j : Nat // j ≤ s.names.length ∧ ∀ y ∈ s.names.take j, (!decide (5000 < y.length)) = true} => ⟨[(1, vI k), (2, vP 2 0), (30, vI s.names.length), (31, vI x.1)], [(2, some ⟨28, sbK s, true, false⟩)]⟩) (fun x => s.names.length - x.1) ⟨0, by simp⟩ [] (by (iterate 2 ((try simp (maxSteps := 9999999) (implicitDefEqProofs := false) only [go_sem, bD, bytesD]); (try simp (maxSteps := 9999999) (disch := omega) only [wq]))); try simp) (fun ⟨j, hj, hall⟩ => ?_)
    by_cases hlt : j < s.names.length
    · obtain ⟨x, hx⟩ : ∃ x, s.names[j]? = some x := ⟨_, List.getElem?_eq_getElem hlt⟩
      have hb : decide ((j : Int) < (s.names.length : Int)) = true := by simpa using hlt
      have hr := row_at hx
      have hlx : decide ((x.length : Int) > 5000) = decide (5000 < x.length) := by rw [decide_eq_decide]; omega
      simp only [bytesD] at hr
      cases hq : decide (5000 < x.length) with
      | true =>
        have hyes : (s.names.any fun n => decide (5000 < n.length)) = true := List.any_eq_true.2 ⟨x, List.mem_of_getElem? hx, hq⟩
        rw [hq] at hlx
        rw [hyes, Bool.true_or] at hv
        (repeat' (first | with_reducible (first | refine zA fun Kn hK => ?_ | refine zB (by kernel_rfl) ?_ | refine Nx.go ?_ | go_step) | fail | with_reducible (first | refine zI ?_ | refine zJ ?_ | refine zK ?_ ?_ | refine zL ?_ ?_ | refine zR (by kernel_rfl) ?_) | simp (maxSteps := 9999999) (disch := omega) only [wq] | (with_reducible refine zM (fun hb => ?_) (fun hb => ?_) <;> (try simp only [hb])) | (with_reducible refine And.intro (by first | omega | (simp; done) | (simp; omega)) ?_) | simp (maxSteps := 9999999) (implicitDefEqProofs := false) only [go_sem, hb, hr, hlx, List.length_map, bD, bytesD] | fail))
        all_goals rw [hv]
      | false =>
        rw [hq] at hlx
        (repeat' (first | with_reducible (first | refine zA fun Kn hK => ?_ | refine zB (by kernel_rfl) ?_ | refine Nx.go ?_ | go_step) | (refine ⟨[], ⟨j + 1, hlt, tk_none hx (by rw [hq]; rfl) hall⟩, ?_⟩) | with_reducible (first | refine zI ?_ | refine zJ ?_ | refine zK ?_ ?_ | refine zL ?_ ?_ | refine zR (by kernel_rfl) ?_) | simp (maxSteps := 9999999) (disch := omega) only [wq] | (with_reducible refine zM (fun hb => ?_) (fun hb => ?_) <;> (try simp only [hb])) | (with_reducible refine And.intro (by first | omega | (simp; done) | (simp; omega)) ?_) | simp (maxSteps := 9999999) (implicitDefEqProofs := false) only [go_sem, hb, hr, hlx, List.length_map, bD, bytesD] | fail))
        all_goals omega
    · have hb : decide ((j : Int) < (s.names.length : Int)) = false := by simpa using hlt
      obtain rfl : j = s.names.length := by omega
      rw [List.take_length] at hall
      have hno : (s.names.any fun n => decide (5000 < n.length)) = false := by
        rw [List.any_eq_false]
        intro n hn
        have := hall n hn
        simpa using this
      rw [hno, Bool.false_or] at hv
      (repeat' (first | with_reducible (first | refine zA fun Kn hK => ?_ | refine zB (by kernel_rfl) ?_ | refine Nx.go ?_ | go_step) | fail | with_reducible (first | refine zI ?_ | refine zJ ?_ | refine zK ?_ ?_ | refine zL ?_ ?_ | refine zR (by kernel_rfl) ?_) | simp (maxSteps := 9999999) (disch := omega) only [wq] | (with_reducible refine zM (fun hb => ?_) (fun hb => ?_) <;> (try simp only [hb])) | (with_reducible refine And.intro (by first | omega | (simp; done) | (simp; omega)) ?_) | simp (maxSteps := 9999999) (implicitDefEqProofs := false) only [go_sem, hb, bD, bytesD] | fail))
      refine sound_loopR (fun x : {j : Nat // j ≤ s.kids.length ∧ ∀ y ∈ s.kids.take j, (!y.great (k + 1)) = true} => ⟨[(1, vI k), (2, vP 2 0), (44, vI s.kids.length), (45, vI x.1)], [(2, some ⟨28, sbK s, true, false⟩)]⟩) (fun x => s.kids.length - x.1) ⟨0, by simp⟩ [] (by (iterate 2 ((try simp (maxSteps := 9999999) (implicitDefEqProofs := false) only [go_sem, bD, bytesD]); (try simp (maxSteps := 9999999) (disch := omega) only [wq]))); try simp) (fun ⟨j, hj, hall⟩ => ?_)
      by_cases hlt : j < s.kids.length
      · obtain ⟨x, hx⟩ : ∃ x, s.kids[j]? = some x := ⟨_, List.getElem?_eq_getElem hlt⟩
        have hb : decide ((j : Int) < (s.kids.length : Int)) = true := by simpa using hlt
        have hm := List.mem_of_getElem? hx
        have hxv := ih x hm _ (k + 1) rfl (by omega)
        have hf := flat_at sbC_len hx
        rw [sbC_eq x] at hxv hf
        rw [show ((k + 1 : Nat) : Int) = (k : Int) + 1 from by omega] at hxv
        simp only [bD, bytesD] at hxv hf
        cases hq : x.great (k + 1) with
        | true =>
          have hyes : (s.kids.any fun x => x.great (k + 1)) = true := List.any_eq_true.2 ⟨x, hm, hq⟩
          rw [hq] at hxv
          rw [hyes] at hv
          clear ih
          (repeat' (first | with_reducible (first | refine zA fun Kn hK => ?_ | refine zB (by kernel_rfl) ?_ | refine Nx.go ?_ | go_step) | (refine ⟨_, hxv, ?_⟩) | with_reducible (first | refine zI ?_ | refine zJ ?_ | refine zK ?_ ?_ | refine zL ?_ ?_ | refine zR (by kernel_rfl) ?_) | simp (maxSteps := 9999999) (disch := omega) only [wq] | (with_reducible refine zM (fun hb => ?_) (fun hb => ?_) <;> (try simp only [hb])) | (with_reducible refine And.intro (by first | omega | (simp; done) | (simp; omega)) ?_) | simp (maxSteps := 9999999) (implicitDefEqProofs := false) only [go_sem, hb, hf, bD, bytesD] | fail))
          all_goals rw [hv]
        | false =>
          rw [hq] at hxv
          clear ih
          (repeat' (first | with_reducible (first | refine zA fun Kn hK => ?_ | refine zB (by kernel_rfl) ?_ | refine Nx.go ?_ | go_step) | (refine ⟨_, hxv, ?_⟩) | (refine ⟨[], ⟨j + 1, hlt, tk_none (f := fun x => !x.great (k + 1)) hx (by rw [hq]; rfl) hall⟩, ?_⟩) | with_reducible (first | refine zI ?_ | refine zJ ?_ | refine zK ?_ ?_ | refine zL ?_ ?_ | refine zR (by kernel_rfl) ?_) | simp (maxSteps := 9999999) (disch := omega) only [wq] | (with_reducible refine zM (fun hb => ?_) (fun hb => ?_) <;> (try simp only [hb])) | (with_reducible refine And.intro (by first | omega | (simp; done) | (simp; omega)) ?_) | simp (maxSteps := 9999999) (implicitDefEqProofs := false) only [go_sem, hb, hf, bD, bytesD] | fail))
          all_goals omega
      · have hb : decide ((j : Int) < (s.kids.length : Int)) = false := by simpa using hlt
        obtain rfl : j = s.kids.length := by omega
        rw [List.take_length] at hall
        have hno : (s.kids.any fun x => x.great (k + 1)) = false := by
          rw [List.any_eq_false]
          intro n hn
          have := hall n hn
          simpa using this
        rw [hno] at hv
        (repeat' (first | with_reducible (first | refine zA fun Kn hK => ?_ | refine zB (by kernel_rfl) ?_ | refine Nx.go ?_ | go_step) | fail | with_reducible (first | refine zI ?_ | refine zJ ?_ | refine zK ?_ ?_ | refine zL ?_ ?_ | refine zR (by kernel_rfl) ?_) | simp (maxSteps := 9999999) (disch := omega) only [wq] | (with_reducible refine zM (fun hb => ?_) (fun hb => ?_) <;> (try simp only [hb])) | (with_reducible refine And.intro (by first | omega | (simp; done) | (simp; omega)) ?_) | simp (maxSteps := 9999999) (implicitDefEqProofs := false) only [go_sem, hb, bD, bytesD] | fail))
        all_goals rw [hv]
theorem rssame_m : ∀ (t u : Sb) (cs ds : List D), sbC t = cs → sbC u = ds → t.fit → Spec Tryz.prog G 43 [.g cs, .g ds] (.one (.c (.v (.bool (t.same u))))) := Sb.ind fun t ih u cs ds hcs hds hf => by
  subst hcs hds
  obtain ⟨f1, f2, f3, f4⟩ := hf.here
  have he := u8_beq t.kind u.kind
  have hq := rksame_m (G := G) t.ks u.ks t.kd u.kd
  have hln : ((t.names.length : Int) == (u.names.length : Int)) = decide (t.names.length = u.names.length) := by
    rw [Bool.eq_iff_iff, beq_iff_eq, decide_eq_true_iff]
    omega
  have hlk : ((t.kids.length : Int) == (u.kids.length : Int)) = decide (t.kids.length = u.kids.length) := by
    rw [Bool.eq_iff_iff, beq_iff_eq, decide_eq_true_iff]
    omega
  have hv : t.same u = (t.kind == u.kind && (t.k == u.k && ((t.ks == u.ks && t.kd == u.kd) && (decide (t.names.length = u.names.length) && (decide (t.kids.length = u.kids.length) && (decide (t.names = u.names) && sameLS t.kids u.kids)))))) := by
    rw [Bool.eq_iff_iff]
    simp only [Bool.and_eq_true, beq_iff_eq, decide_eq_true_eq]
    refine ⟨fun h => ?_, fun ⟨h1, h2, ⟨h3, h4⟩, _, _, h5, h6⟩ => ?_⟩
    · cases ssame_iff.1 h
      exact ⟨rfl, rfl, ⟨rfl, rfl⟩, rfl, rfl, rfl, sameLS_t rfl⟩
    · rw [ssame_iff, t.eta, u.eta, h1, h2, h3, h4, h5, sameLS_of h6]
  obtain ⟨R, hR⟩ : ∃ R, t.same u = R := ⟨_, rfl⟩
  rw [hR] at hv ⊢
  clear hR
  rw [sbC_eq, sbC_eq]
  generalize (t.ks == u.ks && t.kd == u.kd) = z3 at *
  generalize hz4 : decide (t.names.length = u.names.length) = z4 at *
  generalize hz5 : decide (t.kids.length = u.kids.length) = z5 at *
  generalize (t.kind == u.kind) = z1 at *
  obtain ⟨z2, hz2⟩ : ∃ z, (t.k == u.k) = z := ⟨_, rfl⟩
  rw [hz2] at hv
  have six : z1 = false ∨ (z1 = true ∧ z2 = false) ∨ (z1 = true ∧ z2 = true ∧ z3 = false) ∨ (z1 = true ∧ z2 = true ∧ z3 = true ∧ z4 = false) ∨ (z1 = true ∧ z2 = true ∧ z3 = true ∧ z4 = true ∧ z5 = false) ∨ (z1 = true ∧ z2 = true ∧ z3 = true ∧ z4 = true ∧ z5 = true) := by cases z1 <;> cases z2 <;> cases z3 <;> cases z4 <;> cases z5 <;> simp
  simp only [keyC, bD, bytesD] at *
  rcases six with rfl | ⟨rfl, rfl⟩ | ⟨rfl, rfl, rfl⟩ | ⟨rfl, rfl, rfl, rfl⟩ | ⟨rfl, rfl, rfl, rfl, rfl⟩ | ⟨rfl, rfl, rfl, rfl, rfl⟩
  case inr.inr.inr.inr.inr =>
    have hn : t.names.length = u.names.length := of_decide_eq_true hz4
    have hk : t.kids.length = u.kids.length := of_decide_eq_true hz5
    simp only [Bool.true_and] at hv
    clear hz4 hz5
    refine spec_of Tryz.func43 rfl rfl rfl (by kernel_rfl) rfl fun K => ?_
    (repeat' (first | with_reducible (first | refine zA fun Kn hK => ?_ | refine zB (by kernel_rfl) ?_ | refine Nx.go ?_ | go_step) | (refine ⟨_, hq, ?_⟩) | with_reducible (first | refine zI ?_ | refine zJ ?_ | refine zK ?_ ?_ | refine zL ?_ ?_ | refine zR (by kernel_rfl) ?_) | simp (maxSteps := 9999999) (disch := omega) only [wq] | (with_reducible refine zM (fun hb => ?_) (fun hb => ?_) <;> (try simp only [hb])) | (with_reducible refine And.intro (by first | omega | (simp; done) | (simp; omega)) ?_) | simp (maxSteps := 9999999) (implicitDefEqProofs := false) only [go_sem, he, hz2, hln, hlk, bne, decide_true, Bool.not_true, Bool.not_false] | fail))
    refine sound_loopR (fun x : {j : Nat // j ≤ t.names.length ∧ t.names.take j = u.names.take j} => ⟨[(2, vP 2 0), (3, vP 3 0), (47, vI t.names.length), (48, vI x.1)], [(2, some ⟨28, sbK t, true, false⟩), (3, some ⟨28, sbK u, true, false⟩)]⟩) (fun x => t.names.length - x.1) ⟨0, by simp⟩ [] (by (iterate 2 ((try simp (maxSteps := 9999999) (implicitDefEqProofs := false) only [go_sem, bD, bytesD]); (try simp (maxSteps := 9999999) (disch := omega) only [wq]))); try simp) (fun ⟨j, hj, hall⟩ => ?_)
    by_cases hlt : j < t.names.length
    · obtain ⟨x, hx⟩ : ∃ x, t.names[j]? = some x := ⟨_, List.getElem?_eq_getElem hlt⟩
      obtain ⟨y, hy⟩ : ∃ y, u.names[j]? = some y := ⟨_, List.getElem?_eq_getElem (by omega)⟩
      have hb : decide ((j : Int) < (t.names.length : Int)) = true := by simpa using hlt
      have hjm : j < u.names.length := by omega
      have hrx := row_at hx
      have hry := row_at hy
      simp only [bytesD] at hrx hry
      clear ih
      by_cases hxy : x = y
      · subst hxy
        (repeat' (first | with_reducible (first | refine zA fun Kn hK => ?_ | refine zB (by kernel_rfl) ?_ | refine Nx.go ?_ | go_step) | (refine ⟨[], ⟨j + 1, hlt, take_eq hx hy hall⟩, ?_⟩) | with_reducible (first | refine zI ?_ | refine zJ ?_ | refine zK ?_ ?_ | refine zL ?_ ?_ | refine zR (by kernel_rfl) ?_) | simp (maxSteps := 9999999) (disch := omega) only [wq] | (with_reducible refine zM (fun hb => ?_) (fun hb => ?_) <;> (try simp only [hb])) | (with_reducible refine And.intro (by first | omega | (simp; done) | (simp; omega)) ?_) | simp (maxSteps := 9999999) (implicitDefEqProofs := false) only [go_sem, hb, hrx, hry, List.length_map, bD, bytesD, bne, beq_self_eq_true, Bool.not_true, Bool.not_false] | fail))
        all_goals omega
      · have hd : (x == y) = false := beq_eq_false_iff_ne.2 hxy
        have hno : decide (t.names = u.names) = false := by
          rw [decide_eq_false_iff_not]
          intro h
          rw [h, hy] at hx
          injection hx with hx
          exact hxy hx.symm
        rw [hno, Bool.false_and] at hv
        (repeat' (first | with_reducible (first | refine zA fun Kn hK => ?_ | refine zB (by kernel_rfl) ?_ | refine Nx.go ?_ | go_step) | fail | with_reducible (first | refine zI ?_ | refine zJ ?_ | refine zK ?_ ?_ | refine zL ?_ ?_ | refine zR (by kernel_rfl) ?_) | simp (maxSteps := 9999999) (disch := omega) only [wq] | (with_reducible refine zM (fun hb => ?_) (fun hb => ?_) <;> (try simp only [hb])) | (with_reducible refine And.intro (by first | omega | (simp; done) | (simp; omega)) ?_) | simp (maxSteps := 9999999) (implicitDefEqProofs := false) only [go_sem, hb, hrx, hry, hd, List.length_map, bD, bytesD, bne, Bool.not_true, Bool.not_false] | fail))
        all_goals rw [hv]
    · have hb : decide ((j : Int) < (t.names.length : Int)) = false := by simpa using hlt
      obtain rfl : j = t.names.length := by omega
      rw [List.take_length, hn, List.take_length] at hall
      rw [decide_eq_true hall, Bool.true_and] at hv
      (repeat' (first | with_reducible (first | refine zA fun Kn hK => ?_ | refine zB (by kernel_rfl) ?_ | refine Nx.go ?_ | go_step) | fail | with_reducible (first | refine zI ?_ | refine zJ ?_ | refine zK ?_ ?_ | refine zL ?_ ?_ | refine zR (by kernel_rfl) ?_) | simp (maxSteps := 9999999) (disch := omega) only [wq] | (with_reducible refine zM (fun hb => ?_) (fun hb => ?_) <;> (try simp only [hb])) | (with_reducible refine And.intro (by first | omega | (simp; done) | (simp; omega)) ?_) | simp (maxSteps := 9999999) (implicitDefEqProofs := false) only [go_sem, hb, bD, bytesD] | fail))
      refine sound_loopR (fun x : {j : Nat // j ≤ t.kids.length ∧ t.kids.take j = u.kids.take j} => ⟨[(2, vP 2 0), (3, vP 3 0), (67, vI t.kids.length), (68, vI x.1)], [(2, some ⟨28, sbK t, true, false⟩), (3, some ⟨28, sbK u, true, false⟩)]⟩) (fun x => t.kids.length - x.1) ⟨0, by simp⟩ [] (by (iterate 2 ((try simp (maxSteps := 9999999) (implicitDefEqProofs := false) only [go_sem, bD, bytesD]); (try simp (maxSteps := 9999999) (disch := omega) only [wq]))); try simp) (fun ⟨j, hj, hall⟩ => ?_)
      by_cases hlt : j < t.kids.length
      · obtain ⟨x, hx⟩ : ∃ x, t.kids[j]? = some x := ⟨_, List.getElem?_eq_getElem hlt⟩
        obtain ⟨y, hy⟩ : ∃ y, u.kids[j]? = some y := ⟨_, List.getElem?_eq_getElem (by omega)⟩
        have hb : decide ((j : Int) < (t.kids.length : Int)) = true := by simpa using hlt
        have hjm : j < u.kids.length := by omega
        have hm := List.mem_of_getElem? hx
        have hxv := ih x hm y _ _ rfl rfl (hf.kid hm)
        have hfx := flat_at sbC_len hx
        have hfy := flat_at sbC_len hy
        rw [sbC_eq x] at hxv hfx
        rw [sbC_eq y] at hxv hfy
        simp only [bD, bytesD] at hxv hfx hfy
        clear ih
        cases hxy : x.same y with
        | true =>
          rw [hxy] at hxv
          obtain rfl := ssame_iff.1 hxy
          (repeat' (first | with_reducible (first | refine zA fun Kn hK => ?_ | refine zB (by kernel_rfl) ?_ | refine Nx.go ?_ | go_step) | (refine ⟨_, hxv, ?_⟩) | (refine ⟨[], ⟨j + 1, hlt, take_eq hx hy hall⟩, ?_⟩) | with_reducible (first | refine zI ?_ | refine zJ ?_ | refine zK ?_ ?_ | refine zL ?_ ?_ | refine zR (by kernel_rfl) ?_) | simp (maxSteps := 9999999) (disch := omega) only [wq] | (with_reducible refine zM (fun hb => ?_) (fun hb => ?_) <;> (try simp only [hb])) | (with_reducible refine And.intro (by first | omega | (simp; done) | (simp; omega)) ?_) | simp (maxSteps := 9999999) (implicitDefEqProofs := false) only [go_sem, hb, hfx, hfy, bD, bytesD, Bool.not_true, Bool.not_false] | fail))
          all_goals omega
        | false =>
          rw [hxy] at hxv
          have hno : sameLS t.kids u.kids = false := sameLS_f fun h => by
            rw [h, hy] at hx
            injection hx with hx
            rw [ssame_iff.2 hx.symm] at hxy
            cases hxy
          rw [hno] at hv
          (repeat' (first | with_reducible (first | refine zA fun Kn hK => ?_ | refine zB (by kernel_rfl) ?_ | refine Nx.go ?_ | go_step) | (refine ⟨_, hxv, ?_⟩) | with_reducible (first | refine zI ?_ | refine zJ ?_ | refine zK ?_ ?_ | refine zL ?_ ?_ | refine zR (by kernel_rfl) ?_) | simp (maxSteps := 9999999) (disch := omega) only [wq] | (with_reducible refine zM (fun hb => ?_) (fun hb => ?_) <;> (try simp only [hb])) | (with_reducible refine And.intro (by first | omega | (simp; done) | (simp; omega)) ?_) | simp (maxSteps := 9999999) (implicitDefEqProofs := false) only [go_sem, hb, hfx, hfy, bD, bytesD, Bool.not_true, Bool.not_false] | fail))
          all_goals rw [hv]
      · have hb : decide ((j : Int) < (t.kids.length : Int)) = false := by simpa using hlt
        obtain rfl : j = t.kids.length := by omega
        rw [List.take_length, hk, List.take_length] at hall
        rw [sameLS_t hall] at hv
        (repeat' (first | with_reducible (first | refine zA fun Kn hK => ?_ | refine zB (by kernel_rfl) ?_ | refine Nx.go ?_ | go_step) | fail | with_reducible (first | refine zI ?_ | refine zJ ?_ | refine zK ?_ ?_ | refine zL ?_ ?_ | refine zR (by kernel_rfl) ?_) | simp (maxSteps := 9999999) (disch := omega) only [wq] | (with_reducible refine zM (fun hb => ?_) (fun hb => ?_) <;> (try simp only [hb])) | (with_reducible refine And.intro (by first | omega | (simp; done) | (simp; omega)) ?_) | simp (maxSteps := 9999999) (implicitDefEqProofs := false) only [go_sem, hb, bD, bytesD] | fail))
        all_goals rw [hv]
  all_goals
    have hR : R = false := hv
    subst hR
    clear hv ih
    refine spec_of Tryz.func43 rfl rfl rfl (by kernel_rfl) rfl fun K => ?_
    (repeat' (first | with_reducible (first | refine zA fun Kn hK => ?_ | refine zB (by kernel_rfl) ?_ | refine Nx.go ?_ | go_step) | (refine ⟨_, hq, ?_⟩) | with_reducible (first | refine zI ?_ | refine zJ ?_ | refine zK ?_ ?_ | refine zL ?_ ?_ | refine zR (by kernel_rfl) ?_) | simp (maxSteps := 9999999) (disch := omega) only [wq] | (with_reducible refine zM (fun hb => ?_) (fun hb => ?_) <;> (try simp only [hb])) | (with_reducible refine And.intro (by first | omega | (simp; done) | (simp; omega)) ?_) | simp (maxSteps := 9999999) (implicitDefEqProofs := false) only [go_sem, he, hz2, hln, hlk, bne, decide_true, Bool.not_true, Bool.not_false] | fail))
    all_goals rfl
end
end Go.Proofs.YtfammdfpgccnfaaGreatDoor
/- Certificates: the document's Rights, Same, Great. -/
namespace Go.Proofs.YtfammdfpgccnfaaGreatDoor
open Go.RowKit
section
variable {G : Nat → Option (List D)}
noncomputable def ctSame (a b : Ct) : Bool := a.ks == b.ks && a.kd == b.kd && (a.label == b.label && (a.sub.same b.sub && (a.dlg == b.dlg && (a.tag.same b.tag && decide (a.win = b.win)))))
theorem ctSame_refl (a : Ct) : ctSame a a = true := by
  unfold ctSame
  rw [ssame_iff.2 rfl, tsame_t rfl]
  simp
theorem ctSame_iff {a b : Ct} : ctSame a b = true ↔ a = b := by
  refine ⟨fun h => ?_, fun h => by rw [h]; exact ctSame_refl b⟩
  unfold ctSame at h
  simp only [Bool.and_eq_true, beq_iff_eq, decide_eq_true_eq, ssame_iff] at h
  obtain ⟨⟨h1, h2⟩, h3, h4, h5, h6, h7⟩ := h
  have h6 := tsame_of h6
  cases a; cases b
  dsimp only at *
  subst h1 h2 h3 h4 h5 h6 h7
  rfl
theorem rcsame_m (a b : Ct) (ha : a.fit) (hb : b.fit) {cs ds : List D} (hcs : ctC a = cs) (hds : ctC b = ds) : Spec Tryz.prog G 14 [.g cs, .g ds] (.one (.c (.v (.bool (ctSame a b))))) := by
  subst hcs hds
  unfold ctSame
  have k1 := rksame_m (G := G) a.ks b.ks a.kd b.kd
  have k3 := rssame_m (G := G) a.sub b.sub _ _ rfl rfl ha.sub
  have k4 := same12_m (G := G) a.tag b.tag _ _ rfl rfl (by have := ha.wt; omega)
  have w1 := win_key ha.win
  have w2 := win_key hb.win
  obtain ⟨s1, s2, s3, s4, s5, hs⟩ := sb_cells a.sub
  obtain ⟨t0, t1, t2, t3, t4, t5, t6, t7, t8, t9, ht⟩ := tag_cells a.tag
  obtain ⟨u1, u2, u3, u4, u5, hu⟩ := sb_cells b.sub
  obtain ⟨v0, v1, v2, v3, v4, v5, v6, v7, v8, v9, hv⟩ := tag_cells b.tag
  have hca : ctC a = [.v (.bool a.ks), bytesD a.kd, bytesD a.label, .v (.int .u8 (a.sub.kind.toNat : Int)), s1, s2, s3, s4, s5, .v (.bool a.dlg), t0, t1, t2, t3, t4, t5, t6, t7, t8, t9, .v (.bool a.win.aft), .v (.int .i64 a.win.frm), .v (.bool a.win.unt), .v (.int .i64 a.win.to)] := by
    unfold ctC wdC
    rw [hs, ht]
    rfl
  have hcb : ctC b = [.v (.bool b.ks), bytesD b.kd, bytesD b.label, .v (.int .u8 (b.sub.kind.toNat : Int)), u1, u2, u3, u4, u5, .v (.bool b.dlg), v0, v1, v2, v3, v4, v5, v6, v7, v8, v9, .v (.bool b.win.aft), .v (.int .i64 b.win.frm), .v (.bool b.win.unt), .v (.int .i64 b.win.to)] := by
    unfold ctC wdC
    rw [hu, hv]
    rfl
  rw [hs, hu] at k3
  rw [ht, hv] at k4
  rw [hca, hcb]
  clear hs ht hu hv hca hcb
  obtain ⟨q, hq⟩ : ∃ q, decide (a.win = b.win) = q := ⟨_, rfl⟩
  have hh : (q = true) ↔ wdLit a.win = wdLit b.win := win_key_eq hq.symm
  rw [hq]
  have hla := ha.label
  have hlb := hb.label
  clear hq ha hb
  generalize (a.ks == b.ks && a.kd == b.kd) = z1 at *
  obtain ⟨z2, hz2⟩ : ∃ z, (a.label == b.label) = z := ⟨_, rfl⟩
  rw [hz2]
  generalize a.sub.same b.sub = z3 at *
  generalize a.tag.same b.tag = z5 at *
  obtain ⟨z4, hz4⟩ : ∃ z, (a.dlg == b.dlg) = z := ⟨_, rfl⟩
  rw [hz4]
  have six : z1 = false ∨ (z1 = true ∧ z2 = false) ∨ (z1 = true ∧ z2 = true ∧ z3 = false) ∨ (z1 = true ∧ z2 = true ∧ z3 = true ∧ z4 = false) ∨ (z1 = true ∧ z2 = true ∧ z3 = true ∧ z4 = true ∧ z5 = false) ∨ (z1 = true ∧ z2 = true ∧ z3 = true ∧ z4 = true ∧ z5 = true) := by cases z1 <;> cases z2 <;> cases z3 <;> cases z4 <;> cases z5 <;> simp
  simp only [keyC, bD, bytesD] at *
  rcases six with rfl | ⟨rfl, rfl⟩ | ⟨rfl, rfl, rfl⟩ | ⟨rfl, rfl, rfl, rfl⟩ | ⟨rfl, rfl, rfl, rfl, rfl⟩ | ⟨rfl, rfl, rfl, rfl, rfl⟩
  all_goals
    refine spec_of Tryz.func14 rfl rfl rfl (by kernel_rfl) rfl fun K => ?_
    (repeat' (first | with_reducible (first | refine zA fun Kn hK => ?_ | refine zB (by kernel_rfl) ?_ | refine Nx.go ?_ | go_step) | (refine ⟨_, k1, ?_⟩) | (refine ⟨_, k3, ?_⟩) | (refine ⟨_, k4, ?_⟩) | (refine run_agg_eql (by kernel_rfl) w1 w2 hh ?_) | with_reducible (first | refine zI ?_ | refine zJ ?_ | refine zK ?_ ?_ | refine zL ?_ ?_ | refine zR (by kernel_rfl) ?_) | simp (maxSteps := 9999999) (disch := omega) only [wq] | (with_reducible refine zM (fun hb => ?_) (fun hb => ?_) <;> (try simp only [hb])) | (with_reducible refine And.intro (by first | omega | (simp; done) | (simp; omega)) ?_) | simp (maxSteps := 9999999) (implicitDefEqProofs := false) only [go_sem, hz2, hz4, decide_true, bne, Bool.not_true, Bool.not_false] | fail))
    all_goals first | rfl | exact absurd ((show (a.label == b.label) = true by assumption).symm.trans (show (a.label == b.label) = false by assumption)) (by decide)
def Ct.great (c : Ct) : Bool := decide (200 < c.kd.length) || (decide (5000 < c.label.length) || (c.sub.great 0 || c.tag.great 0))
theorem rcgreat_m (c : Ct) (hw : c.tag.wt ≤ 1000000000) {cs : List D} (hcs : ctC c = cs) : Spec Tryz.prog G 11 [.g cs] (.one (.c (.v (.bool c.great)))) := by
  subst hcs
  have g1 := rsgreat_m (G := G) c.sub _ 0 rfl (by omega)
  have g2 := great12_m (G := G) c.tag _ 0 rfl hw (by omega)
  rw [show ((0 : Nat) : Int) = 0 from rfl] at g1 g2
  have d1 : decide ((c.kd.length : Int) > 200) = decide (200 < c.kd.length) := by rw [decide_eq_decide]; omega
  have d2 : decide ((c.label.length : Int) > 5000) = decide (5000 < c.label.length) := by rw [decide_eq_decide]; omega
  obtain ⟨s1, s2, s3, s4, s5, hs⟩ := sb_cells c.sub
  obtain ⟨t0, t1, t2, t3, t4, t5, t6, t7, t8, t9, ht⟩ := tag_cells c.tag
  have hct : ctC c = [.v (.bool c.ks), bytesD c.kd, bytesD c.label, .v (.int .u8 (c.sub.kind.toNat : Int)), s1, s2, s3, s4, s5, .v (.bool c.dlg), t0, t1, t2, t3, t4, t5, t6, t7, t8, t9, .v (.bool c.win.aft), .v (.int .i64 c.win.frm), .v (.bool c.win.unt), .v (.int .i64 c.win.to)] := by
    unfold ctC wdC
    rw [hs, ht]
    rfl
  rw [hs] at g1
  rw [ht] at g2
  rw [hct]
  clear hs ht hct
  unfold Ct.great
  generalize decide (200 < c.kd.length) = z1 at *
  generalize decide (5000 < c.label.length) = z2 at *
  generalize c.sub.great 0 = z3 at *
  generalize c.tag.great 0 = z4 at *
  have four : z1 = true ∨ (z1 = false ∧ z2 = true) ∨ (z1 = false ∧ z2 = false ∧ z3 = true) ∨ (z1 = false ∧ z2 = false ∧ z3 = false) := by cases z1 <;> cases z2 <;> cases z3 <;> simp
  simp only [bD, bytesD] at *
  rcases four with rfl | ⟨rfl, rfl⟩ | ⟨rfl, rfl, rfl⟩ | ⟨rfl, rfl, rfl⟩
  all_goals
    refine spec_of Tryz.func11 rfl rfl rfl (by kernel_rfl) rfl fun K => ?_
    (repeat' (first | with_reducible (first | refine zA fun Kn hK => ?_ | refine zB (by kernel_rfl) ?_ | refine Nx.go ?_ | go_step) | (refine ⟨_, g1, ?_⟩) | (refine ⟨_, g2, ?_⟩) | with_reducible (first | refine zI ?_ | refine zJ ?_ | refine zK ?_ ?_ | refine zL ?_ ?_ | refine zR (by kernel_rfl) ?_) | simp (maxSteps := 9999999) (disch := omega) only [wq] | (with_reducible refine zM (fun hb => ?_) (fun hb => ?_) <;> (try simp only [hb])) | (with_reducible refine And.intro (by first | omega | (simp; done) | (simp; omega)) ?_) | simp (maxSteps := 9999999) (implicitDefEqProofs := false) only [go_sem, d1, d2, decide_true, bne, Bool.not_true, Bool.not_false] | fail))
    all_goals rfl
end
end Go.Proofs.YtfammdfpgccnfaaGreatDoor
/- Certificates: the document's Get. -/
namespace Go.Proofs.YtfammdfpgccnfaaGreatDoor
open Go.RowKit
section
variable {G : Nat → Option (List D)}
end
end Go.Proofs.YtfammdfpgccnfaaGreatDoor
/- The laws of certificates: awake, parts, deep, nodes, long. -/
namespace Go.Proofs.YtfammdfpgccnfaaGreatDoor
open Go.RowKit
section
variable {G : Nat → Option (List D)}
end
end Go.Proofs.YtfammdfpgccnfaaGreatDoor
/- The laws of certificates: long, awake. -/
namespace Go.Proofs.YtfammdfpgccnfaaGreatDoor
open Go.RowKit
def awK : List UInt8 := List.replicate 32 0
def awTg : Tg := .mk 1 [] [] 0 Bd.none Bd.none
def awC : Ct := ⟨false, awK, [], .mk 1 false awK [] 0 [], true, awTg, Wd.none⟩
theorem awK_len : awK.length = 32 := by simp [awK]
theorem awK_may : keyMay false awK = true := by
  unfold keyMay
  rw [awK_len]
  rfl
theorem awTg_val : awTg.val = listT [atomT wStar] := by
  unfold awTg
  rw [val_of]
  rfl
theorem awTg_right : awTg.right isV = true := by
  rw [Tg.right_eq]
  unfold awTg
  rfl
theorem key32_sz : Sz (keyV false awK) 5 2 80 := by
  have h : keyV false awK = listT [atomT tPub, listT [atomT tEd, atomT awK]] := rfl
  rw [h]
  exact (sz_list (szl_cons (sz_atom (k := 10) 1 (by decide) (by omega)) (szl_cons (sz_list (szl_cons (sz_atom (k := 7) 0 (by decide) (by omega)) (szl_cons (sz_atom (k := 32) 0 (by rw [awK_len]; exact Nat.le_refl _) (by omega)) (szl_nil 0)))) (szl_nil 1)))).mono (by omega) (by omega) (by omega)
theorem star_sz : Sz (listT [atomT wStar]) 2 1 12 := (sz_list (szl_cons (sz_atom (k := 1) 0 (by decide) (by omega)) (szl_nil 0))).mono (by omega) (by omega) (by omega)
theorem awSub_val : awC.sub.val = keyV false awK := by
  rw [Sb.val_eq]
  rfl
theorem aw_ok : awC.ok = true := by
  have h1 : awC.sub.may = true := by
    rw [Sb.may, awSub_val, sz_may key32_sz (by omega) (by omega) (by omega), Bool.and_true, Sb.right_eq]
    show (awC.sub.plain && true) = true
    rw [Bool.and_true]
    unfold Sb.plain
    show (true && (true && keyMay false awK)) = true
    rw [awK_may]
    rfl
  have h2 : tMay awTg = true := by
    rw [tMay, awTg_right, awTg_val, sz_may star_sz (by omega) (by omega) (by omega)]
    rfl
  unfold Ct.ok rOk
  rw [h1]
  show (keyMay false awK && (true && ((if true = true then tMay awTg else _) && Wd.none.may))) = true
  rw [awK_may, if_pos rfl, h2]
  decide
theorem aw_may : awC.may = true := by
  have e1 : (keyV awC.ks awC.kd).form.length ≤ 80 := key32_sz.2.2.2
  have e2 : awC.sub.val.form.length ≤ 80 := by rw [awSub_val]; exact key32_sz.2.2.2
  have e3 : awC.tag.val.form.length ≤ 12 := by
    show awTg.val.form.length ≤ 12
    rw [awTg_val]
    exact star_sz.2.2.2
  have e4 : awC.tag.val.deep ≤ 1 := by
    show awTg.val.deep ≤ 1
    rw [awTg_val]
    exact star_sz.2.2.1
  have e5 : awC.tag.val.nodes ≤ 2 := by
    show awTg.val.nodes ≤ 2
    rw [awTg_val]
    exact star_sz.2.1
  have e6 : awC.sub.val.nodes ≤ 5 := by rw [awSub_val]; exact key32_sz.2.1
  have e7 : awC.label.length = 0 := rfl
  refine ct_may aw_ok ?_ (fun _ => by omega) (fun _ => by omega) (by omega)
  rw [if_pos (show emptyL awC.label = true from rfl)]
  omega
theorem aw_fit : awC.fit := by
  refine ⟨by show awK.length ≤ _; rw [awK_len]; omega, Nat.zero_le _, ?_, ?_, ?_, none_64⟩
  · rw [Sb.fit_eq]
    refine ⟨⟨Nat.zero_le _, Nat.zero_le _, by show awK.length ≤ _; rw [awK_len]; omega, fun n hn => ?_⟩, fun x hx => ?_⟩
    · cases hn
    · cases hx
  · show awTg.wt ≤ _
    unfold awTg
    rw [Tg.wt_eq]
    exact Nat.le_trans (Nat.le_refl 1) (by omega)
  · show awTg.nodes ≤ _
    unfold awTg
    rw [Tg.nodes_eq]
    exact Nat.le_trans (Nat.le_refl 1) (by omega)
theorem aw_C : ctC awC = [.v (.bool false), .sl 32 (List.replicate 32 (bD 0)), .sl 0 [], .v (.int .u8 1), .v (.bool false), .sl 32 (List.replicate 32 (bD 0)), .sl 0 [], .v (.int .i64 0), .sl 0 [], .v (.bool true), .v (.int .u8 1), .sl 0 [], .sl 0 [], .v (.int .u8 0), .v (.bool false), .v (.bool false), .sl 0 [], .v (.bool false), .v (.bool false), .sl 0 [], .v (.bool false), .v (.int .i64 0), .v (.bool false), .v (.int .i64 0)] := by
  unfold ctC wdC
  rw [show awC.sub = .mk 1 false awK [] 0 [] from rfl, sbC_mk, show awC.tag = .mk 1 [] [] 0 Bd.none Bd.none from rfl, tagC_mk]
  rfl
theorem aw_val : ∃ A P1 P2 P3 : Tree, awC.val = listT [A, P1, P2, propT, P3] ∧ A = atomT wCert := by
  refine ⟨atomT wCert, pairT wIssuer (issV awC), pairT wSubject awC.sub.val, pairT wTagW awC.tag.val, ?_, rfl⟩
  unfold Ct.val restL tailV winL
  rw [if_pos (show emptyL awC.label = true from rfl), if_pos (show awC.dlg = true from rfl), if_pos (show awC.win = Wd.none from rfl)]
  rfl
section
variable {G : Nat → Option (List D)}
theorem awake17_m (hG : G 0 = some powD) : Spec Tryz.prog G 12 [] (.one (.c (.v (.bool true)))) := by
  have h1 := cput_m (G := G) hG awC rfl aw_fit
  unfold cputD at h1
  rw [aw_may, if_pos rfl, if_pos rfl, aw_C] at h1
  obtain ⟨A, P1, P2, P3, hv, hA⟩ := aw_val
  have h2 := headref_m (G := G) awC.val rfl wCert
  have h3 := headref_m (G := G) propT rfl wProp
  rw [show headB propT wProp = true from by rw [propT, headB_list]; decide] at h3
  rw [hv] at h1 h2
  rw [show headB (listT [A, P1, P2, propT, P3]) wCert = true from by rw [hA, headB_list]; decide] at h2
  rw [show listT [A, P1, P2, propT, P3] = .mk true false [] [] [A, P1, P2, propT, P3] from rfl, treeC_mk] at h1 h2
  rw [treeC_eq propT] at h3
  clear hv hA
  generalize propT = P at *
  have c5 : (((5 : Nat) : Int) == 5) = true := rfl
  unfold wCert at h2
  unfold wProp at h3
  simp only [bD, bytesD, List.flatMap_cons, List.flatMap_nil, treeC_eq A, treeC_eq P1, treeC_eq P2, treeC_eq P3, treeC_eq P, List.cons_append, List.nil_append, List.append_nil, List.length_cons, List.length_nil, Nat.zero_add, Nat.reduceAdd] at *
  refine spec_of Tryz.func12 rfl rfl rfl (by kernel_rfl) rfl fun K => ?_
  (repeat' (first | with_reducible (first | refine zA fun Kn hK => ?_ | refine zB (by kernel_rfl) ?_ | refine Nx.go ?_ | go_step) | (refine ⟨none, ?_⟩) | (refine ⟨_, h1, ?_⟩) | (refine ⟨_, h2, ?_⟩) | (refine ⟨_, h3, ?_⟩) | with_reducible (first | refine zI ?_ | refine zJ ?_ | refine zK ?_ ?_ | refine zL ?_ ?_ | refine zR (by kernel_rfl) ?_) | simp (maxSteps := 9999999) (disch := omega) only [wq] | (with_reducible refine zM (fun hb => ?_) (fun hb => ?_) <;> (try simp only [hb])) | (with_reducible refine And.intro (by first | omega | (simp; done) | (simp; omega)) ?_) | simp (maxSteps := 9999999) (implicitDefEqProofs := false) only [go_sem, c5, decide_true, bne, Bool.not_true, Bool.not_false] | fail))
  all_goals rfl
end
end Go.Proofs.YtfammdfpgccnfaaGreatDoor
/- The laws of tags, on: writing; lists. -/
namespace Go.Proofs.YtfammdfpgccnfaaGreatDoor
open Go.RowKit
section
variable {G : Nat → Option (List D)}
end
end Go.Proofs.YtfammdfpgccnfaaGreatDoor
/- The laws of certificates. -/
namespace Go.Proofs.YtfammdfpgccnfaaGreatDoor
open Go.RowKit
theorem wt_form : ∀ t : Tree, t.clean = true → t.wt ≤ t.form.length := by
  refine Tree.ind fun t ih h => ?_
  rw [Tree.clean_eq, Bool.and_eq_true, List.all_eq_true] at h
  rw [Tree.wt_eq, Tree.form_eq]
  split
  · rename_i hl
    have : ∀ l : List Tree, (∀ x ∈ l, x.wt ≤ x.form.length) → (l.map Tree.wt).sum ≤ (l.map Tree.form).flatten.length := by
      intro l
      induction l with
      | nil => simp
      | cons x l ih =>
        intro h
        have h0 := h x (by simp)
        have := ih fun y hy => h y (by simp [hy])
        simp only [List.map_cons, List.sum_cons, List.flatten_cons, List.length_append]
        omega
    have := this t.kids fun x hx => ih x hx (h.2 x hx)
    have hf := h.1
    unfold Tree.fair at hf
    rw [if_pos hl] at hf
    simp only [Bool.and_eq_true, beq_iff_eq] at hf
    simp only [List.length_append, List.length_singleton]
    omega
  · rename_i hl
    have hf := h.1
    unfold Tree.fair at hf
    rw [if_neg hl] at hf
    simp only [Bool.and_eq_true, beq_iff_eq, Bool.or_eq_true] at hf
    have hk : t.kids = [] := List.length_eq_zero_iff.1 hf.1
    have hp := dec_pos t.data.length
    rw [hk]
    unfold Tree.atomF textB
    rcases hf.2 with h2 | h2
    · rw [if_pos h2]
      simp only [List.map_nil, List.sum_nil, List.length_append, List.length_singleton]
      omega
    · simp only [List.map_nil, List.sum_nil, List.length_append, List.length_singleton]
      omega
theorem may_wt {t : Tree} (h : t.may = true) : t.wt ≤ 4096 := by
  simp only [Tree.may, Bool.and_eq_true, decide_eq_true_eq] at h
  have := wt_form t h.1.1.1
  omega
theorem great_fit {c : Ct} (h : c.great = false) (hw : c.tag.wt ≤ 2000000) (hin : c.win.in64) : c.fit := by
  unfold Ct.great at h
  simp only [Bool.or_eq_false_iff, decide_eq_false_iff_not] at h
  obtain ⟨h1, h2, h3, h4⟩ := h
  exact ⟨by omega, by omega, Sb.fit_of _ 0 h3, hw, great_nodes h4, hin⟩
theorem val_inj {a b : Ct} (ha : a.ok = true) (hb : b.ok = true) (h : a.val = b.val) : a = b := by
  rw [← readC_val ha, ← readC_val hb, h]
section
variable {G : Nat → Option (List D)}
theorem ct_law (c : Ct) : ∃ a b d k s1 s2 s3 s4 s5 g t0 t1 t2 t3 t4 t5 t6 t7 t8 t9 w0 w1 w2 w3 : D, ctC c = [a, b, d, k, s1, s2, s3, s4, s5, g, t0, t1, t2, t3, t4, t5, t6, t7, t8, t9, w0, w1, w2, w3] := by
  obtain ⟨a, b, d, k, s1, s2, s3, s4, s5, g, t0, t1, t2, t3, t4, t5, t6, t7, t8, t9, w0, w1, w2, w3, h⟩ := ct_lit c
  exact ⟨_, _, _, _, _, _, _, _, _, _, _, _, _, _, _, _, _, _, _, _, _, _, _, _, h⟩
end
end Go.Proofs.YtfammdfpgccnfaaGreatDoor
