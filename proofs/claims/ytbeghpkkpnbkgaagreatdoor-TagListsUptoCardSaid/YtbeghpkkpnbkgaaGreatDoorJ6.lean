/- Parts of the proof, laid together. -/
import Derived.Test.YtbeghpkkpnbkgaaGreatDoorJ5
set_option linter.unusedVariables false
set_option linter.unusedSimpArgs false
set_option maxRecDepth 100000
set_option maxHeartbeats 8000000
/- Tags: the document's example. -/
namespace Go.Proofs.YtbeghpkkpnbkgaaGreatDoor
open Go.RowKit
def awF : List UInt8 := [102, 116, 112]
def awP : List UInt8 := [47, 112, 117, 98, 47]
def awT : Tree := listT [atomT awF, listT [atomT wStar, atomT wPrefix, atomT awP]]
def awG : Tg := .mk 3 [] [.mk 2 awF [] 0 Bd.none Bd.none, .mk 5 awP [] 0 Bd.none Bd.none] 0 Bd.none Bd.none
theorem awT_may : awT.may = true := by
  unfold awT
  simp [Tree.may, Tree.clean_eq, Tree.nodes_eq, Tree.deep_eq, Tree.form_eq, Tree.atomF, listT, atomT, Tree.fair, Tree.list, Tree.kids, Tree.hinted, Tree.hint, Tree.data, textB, most, dec, awF, awP, wStar, wPrefix]
theorem awT_get : getT isV awT = some awG := by
  unfold awT awG
  simp [getT_eq, headB, isB, starT, prefT, allSome, listT, atomT, Tree.list, Tree.kids, Tree.hinted, Tree.data, awF, awP, wStar, wPrefix, wSet, kTg, aTg]
section
variable {G : Nat → Option (List D)}
theorem awake12_m (hG : G 2 = some powD) : Spec Tryz.prog G 8 [] (.one (.c (.v (.bool true)))) := by
  have h1 := atom_m (G := G) awF (by decide)
  have h2 := atom_m (G := G) wStar (by decide)
  have h3 := atom_m (G := G) wPrefix (by decide)
  have h4 := atom_m (G := G) awP (by decide)
  have hw : awT.wt ≤ 10000000 := by unfold awT; simp [wt_listT, wt_atomT, awF, awP, wStar, wPrefix]
  have hg := tget_m (G := G) hG awT rfl hw
  unfold getO at hg
  rw [awT_may, if_pos rfl, awT_get] at hg
  dsimp only at hg
  have hr : tagC awG = [.v (.int .u8 3), .sl 0 [], .sl 2 [.v (.int .u8 2), .sl 3 (awF.map bD), .sl 0 [], .v (.int .u8 0), .v (.bool false), .v (.bool false), .sl 0 [], .v (.bool false), .v (.bool false), .sl 0 [], .v (.int .u8 5), .sl 5 (awP.map bD), .sl 0 [], .v (.int .u8 0), .v (.bool false), .v (.bool false), .sl 0 [], .v (.bool false), .v (.bool false), .sl 0 [] ], .v (.int .u8 0), .v (.bool false), .v (.bool false), .sl 0 [], .v (.bool false), .v (.bool false), .sl 0 [] ] := by
    rw [awG, tagC_mk]
    simp only [List.flatMap_cons, List.flatMap_nil, tagC_mk]
    rfl
  rw [hr, awT, listT, treeC_mk] at hg
  have c2 : (((2 : Nat) : Int) == 2) = true := rfl
  refine spec_of Tryz.func8 rfl rfl rfl (by kernel_rfl) rfl fun K => ?_
  (repeat' (first | with_reducible (first | refine zA fun Kn hK => ?_ | refine zB (by kernel_rfl) ?_ | refine Nx.go ?_ | go_step) | (refine ⟨awP, ⟨rfl, rfl⟩, ?_⟩) | (refine ⟨none, ?_⟩) | (refine ⟨_, h1, ?_⟩) | (refine ⟨_, h2, ?_⟩) | (refine ⟨_, h3, ?_⟩) | (refine ⟨_, h4, ?_⟩) | (refine ⟨_, list_m' [atomT wStar, atomT wPrefix, atomT awP] (by rfl) (by first | (simp only [atomT, listT, List.flatMap_cons, List.flatMap_nil, treeC_mk, bytesD, List.cons_append, List.nil_append, List.length_cons, List.length_nil, List.map_nil, Nat.reduceAdd, List.append_nil]; done) | (simp only [atomT, listT, List.flatMap_cons, List.flatMap_nil, treeC_mk, bytesD, List.cons_append, List.nil_append, List.length_cons, List.length_nil, List.map_nil, Nat.reduceAdd, List.append_nil]; rfl)) (by simp), ?_⟩) | (refine ⟨_, list_m' [atomT awF, listT [atomT wStar, atomT wPrefix, atomT awP] ] (by rfl) (by first | (simp only [atomT, listT, List.flatMap_cons, List.flatMap_nil, treeC_mk, bytesD, List.cons_append, List.nil_append, List.length_cons, List.length_nil, List.map_nil, Nat.reduceAdd, List.append_nil]; done) | (simp only [atomT, listT, List.flatMap_cons, List.flatMap_nil, treeC_mk, bytesD, List.cons_append, List.nil_append, List.length_cons, List.length_nil, List.map_nil, Nat.reduceAdd, List.append_nil]; rfl)) (by simp), ?_⟩) | (refine ⟨_, hg, ?_⟩) | with_reducible (first | refine zI ?_ | refine zJ ?_ | refine zK ?_ ?_ | refine zL ?_ ?_ | refine zR (by kernel_rfl) ?_) | simp (maxSteps := 9999999) (disch := omega) only [wq] | (with_reducible refine zM (fun hb => ?_) (fun hb => ?_) <;> (try simp only [hb])) | (with_reducible refine And.intro (by first | omega | (simp; done) | (simp; omega)) ?_) | simp (maxSteps := 9999999) (implicitDefEqProofs := false) only [go_sem, atomT, listT, treeC_mk, List.length_map, List.length_cons, List.length_nil, bD, bytesD, List.map_cons, List.map_nil, decide_true, c2] | fail))
  all_goals rfl
end
end Go.Proofs.YtbeghpkkpnbkgaaGreatDoor
/- The laws of tags. -/
namespace Go.Proofs.YtbeghpkkpnbkgaaGreatDoor
open Go.RowKit
theorem great_nodes {t : Tg} (h : t.great 0 = false) : t.nodes ≤ 1000 := by
  rw [Tg.great_eq] at h
  simp at h
  omega
section
variable {G : Nat → Option (List D)}
theorem tagsame_m (hG : G 2 = some powD) (a b : Tg) (ha : a.wt ≤ 2000000) (hb : b.wt ≤ 2000000) : Spec Tryz.prog G 4 [.g (tagC a), .g (tagC b)] (.one (.c (.v (.bool true)))) := by
  have hw := awake12_m (G := G) hG
  have g1 := great12_m (G := G) a _ 0 rfl (by omega) (by omega)
  have g2 := great12_m (G := G) b _ 0 rfl (by omega) (by omega)
  have s1 := tsame_m (G := G) a b _ _ rfl rfl (by omega)
  have s2 := same12_m (G := G) a b _ _ rfl rfl (by omega)
  have s3 := tsame_m (G := G) a a _ _ rfl rfl (by omega)
  rw [tsame_t rfl] at s3
  generalize a.great 0 = q1 at *
  generalize b.great 0 = q2 at *
  generalize a.same b = q at *
  rw [tagC_eq a] at g1 s1 s2 s3 ⊢
  rw [tagC_eq b] at g2 s1 s2 ⊢
  unfold bD bytesD at *
  have eq : (q == q) = true := by simp
  cases q1 <;> cases q2
  all_goals
    refine spec_of Tryz.func4 rfl rfl rfl (by kernel_rfl) rfl fun K => ?_
    (repeat' (first | with_reducible (first | refine zA fun Kn hK => ?_ | refine zB (by kernel_rfl) ?_ | refine Nx.go ?_ | go_step) | (refine ⟨_, g1, ?_⟩) | (refine ⟨_, g2, ?_⟩) | (refine ⟨_, s1, ?_⟩) | (refine ⟨_, s2, ?_⟩) | (refine ⟨_, s3, ?_⟩) | (refine ⟨_, hw, ?_⟩) | with_reducible (first | refine zI ?_ | refine zJ ?_ | refine zK ?_ ?_ | refine zL ?_ ?_ | refine zR (by kernel_rfl) ?_) | simp (maxSteps := 9999999) (disch := omega) only [wq] | (with_reducible refine zM (fun hb => ?_) (fun hb => ?_) <;> (try simp only [hb])) | (with_reducible refine And.intro (by first | omega | (simp; done) | (simp; omega)) ?_) | simp (maxSteps := 9999999) (implicitDefEqProofs := false) only [go_sem, eq, decide_true] | fail))
theorem tagrequests_m (hG : G 2 = some powD) (v : Tree) (hv : v.wt ≤ 2000000) : Spec Tryz.prog G 5 [.g (treeC v)] (.one (.c (.v (.bool true)))) := by
  have hw := awake12_m (G := G) hG
  have g1 := great_m (G := G) v _ 0 rfl (by omega) (by omega)
  have r1 := req_m (G := G) hG v rfl (by omega)
  have r2 := rreq_m (G := G) v rfl (by omega)
  have t1 := tget_m (G := G) hG v rfl (by omega)
  have hc : v.may = true → v.conc = true → ∃ u, getT isV v = some u ∧ (u.kind = 2 ∨ u.kind = 3) := fun h1 h2 => by
    simp only [Tree.may, Bool.and_eq_true] at h1
    exact conc_get v h1.1.1.1 h2
  unfold getO at t1
  generalize v.great 0 = q1 at *
  rw [treeC_eq] at g1 r1 r2 t1 ⊢
  cases q1 with
  | true =>
    refine spec_of Tryz.func5 rfl rfl rfl (by kernel_rfl) rfl fun K => ?_
    (repeat' (first | with_reducible (first | refine zA fun Kn hK => ?_ | refine zB (by kernel_rfl) ?_ | refine Nx.go ?_ | go_step) | (refine ⟨_, g1, ?_⟩) | (refine ⟨_, hw, ?_⟩) | with_reducible (first | refine zI ?_ | refine zJ ?_ | refine zK ?_ ?_ | refine zL ?_ ?_ | refine zR (by kernel_rfl) ?_) | simp (maxSteps := 9999999) (disch := omega) only [wq] | (with_reducible refine zM (fun hb => ?_) (fun hb => ?_) <;> (try simp only [hb])) | (with_reducible refine And.intro (by first | omega | (simp; done) | (simp; omega)) ?_) | simp (maxSteps := 9999999) (implicitDefEqProofs := false) only [go_sem, true_and] | fail))
  | false =>
    by_cases hq : (v.may && v.conc) = true
    · rw [Bool.and_eq_true] at hq
      obtain ⟨u, hu, hk⟩ := hc hq.1 hq.2
      rw [hq.1, hq.2] at r1 r2
      rw [hq.1, if_pos rfl, hu] at t1
      dsimp only at t1
      rw [tagC_eq] at t1
      unfold bD bytesD at t1
      have key : ∀ k : UInt8, ((u.kind.toNat : Int) == (k.toNat : Int)) = decide (u.kind = k) := fun k => by rw [u8_beq]; exact Bool.beq_eq_decide_eq _ _
      have e2 : ((u.kind.toNat : Int) == 2) = decide (u.kind = 2) := key 2
      have e3 : ((u.kind.toNat : Int) == 3) = decide (u.kind = 3) := key 3
      rcases hk with hk | hk
      · rw [decide_eq_true hk] at e2
        refine spec_of Tryz.func5 rfl rfl rfl (by kernel_rfl) rfl fun K => ?_
        (repeat' (first | with_reducible (first | refine zA fun Kn hK => ?_ | refine zB (by kernel_rfl) ?_ | refine Nx.go ?_ | go_step) | (refine ⟨_, g1, ?_⟩) | (refine ⟨_, r1, ?_⟩) | (refine ⟨_, r2, ?_⟩) | (refine ⟨_, t1, ?_⟩) | (refine ⟨_, hw, ?_⟩) | with_reducible (first | refine zI ?_ | refine zJ ?_ | refine zK ?_ ?_ | refine zL ?_ ?_ | refine zR (by kernel_rfl) ?_) | simp (maxSteps := 9999999) (disch := omega) only [wq] | (with_reducible refine zM (fun hb => ?_) (fun hb => ?_) <;> (try simp only [hb])) | (with_reducible refine And.intro (by first | omega | (simp; done) | (simp; omega)) ?_) | simp (maxSteps := 9999999) (implicitDefEqProofs := false) only [go_sem, e2, Bool.true_and, decide_true] | fail))
      · have h2 : u.kind ≠ 2 := by rw [hk]; decide
        rw [decide_eq_false h2] at e2
        rw [decide_eq_true hk] at e3
        refine spec_of Tryz.func5 rfl rfl rfl (by kernel_rfl) rfl fun K => ?_
        (repeat' (first | with_reducible (first | refine zA fun Kn hK => ?_ | refine zB (by kernel_rfl) ?_ | refine Nx.go ?_ | go_step) | (refine ⟨_, g1, ?_⟩) | (refine ⟨_, r1, ?_⟩) | (refine ⟨_, r2, ?_⟩) | (refine ⟨_, t1, ?_⟩) | (refine ⟨_, hw, ?_⟩) | with_reducible (first | refine zI ?_ | refine zJ ?_ | refine zK ?_ ?_ | refine zL ?_ ?_ | refine zR (by kernel_rfl) ?_) | simp (maxSteps := 9999999) (disch := omega) only [wq] | (with_reducible refine zM (fun hb => ?_) (fun hb => ?_) <;> (try simp only [hb])) | (with_reducible refine And.intro (by first | omega | (simp; done) | (simp; omega)) ?_) | simp (maxSteps := 9999999) (implicitDefEqProofs := false) only [go_sem, e2, e3, Bool.true_and, decide_true] | fail))
    · rw [Bool.not_eq_true] at hq
      rw [hq] at r1 r2
      obtain ⟨u, e, t2⟩ : ∃ (u : Tg) (e : Int), Spec Tryz.prog G 12 [.g [.v (.bool v.list), .v (.bool v.hinted), bytesD v.hint, bytesD v.data, .sl v.kids.length (v.kids.flatMap treeC)]] (.many [.g (tagC u), .c (.v (.int .i64 e))]) := by
        generalize (if v.may = true then getT isV v else none) = o at t1
        cases o with
        | none => exact ⟨_, _, t1⟩
        | some u => exact ⟨_, _, t1⟩
      rw [tagC_eq] at t2
      unfold bD bytesD at *
      refine spec_of Tryz.func5 rfl rfl rfl (by kernel_rfl) rfl fun K => ?_
      (repeat' (first | with_reducible (first | refine zA fun Kn hK => ?_ | refine zB (by kernel_rfl) ?_ | refine Nx.go ?_ | go_step) | (refine ⟨_, g1, ?_⟩) | (refine ⟨_, r1, ?_⟩) | (refine ⟨_, r2, ?_⟩) | (refine ⟨_, t2, ?_⟩) | (refine ⟨_, hw, ?_⟩) | with_reducible (first | refine zI ?_ | refine zJ ?_ | refine zK ?_ ?_ | refine zL ?_ ?_ | refine zR (by kernel_rfl) ?_) | simp (maxSteps := 9999999) (disch := omega) only [wq] | (with_reducible refine zM (fun hb => ?_) (fun hb => ?_) <;> (try simp only [hb])) | (with_reducible refine And.intro (by first | omega | (simp; done) | (simp; omega)) ?_) | simp (maxSteps := 9999999) (implicitDefEqProofs := false) only [go_sem, Bool.true_and, decide_true] | fail))
end
end Go.Proofs.YtbeghpkkpnbkgaaGreatDoor
/- The laws of tags, on. -/
namespace Go.Proofs.YtbeghpkkpnbkgaaGreatDoor
open Go.RowKit
theorem bd_wt {o : UInt8} {b : Bd} {w : List UInt8} (h : mayE isV o b = true) : b.txt.length ≤ ((bdT b w).map Tree.wt).sum := by
  unfold mayE at h
  unfold bdT
  split
  · simp only [List.map_cons, List.map_nil, List.sum_cons, List.sum_nil, wt_atomT]
    omega
  · rename_i hb
    rw [if_neg hb] at h
    simp only [Bool.and_eq_true, emptyL_iff] at h
    rw [h.2]
    simp
/-- A right tag is no greater than its value. -/
theorem wt_val : ∀ t : Tg, t.right isV = true → t.wt ≤ t.val.wt := by
  refine Tg.ind fun t ih h => ?_
  rw [Tg.right_eq, Bool.and_eq_true, List.all_eq_true] at h
  obtain ⟨hok, hk⟩ := h
  have hs : ∀ l : List Tg, (∀ x ∈ l, x.wt ≤ x.val.wt) → (l.map Tg.wt).sum ≤ ((l.map Tg.val).map Tree.wt).sum := by
    intro l
    induction l with
    | nil => simp
    | cons x l ih =>
      intro h
      have h0 := h x (by simp)
      have := ih fun y hy => h y (by simp [hy])
      simp only [List.map_cons, List.sum_cons]
      omega
  have hk' := hs t.kids fun x hx => ih x hx (hk x hx)
  rw [Tg.ok, Bool.and_eq_true] at hok
  obtain ⟨hb, _⟩ := hok
  obtain ⟨k, d, l, o, lo, hi⟩ := t
  have hp : ∀ {q : Bool}, ((Tg.mk k d l o lo hi).plain && q) = true → lo = Bd.none ∧ hi = Bd.none ∧ q = true := fun {q} h => by
    rw [Bool.and_eq_true] at h
    have h1 := blank_mk h.1
    exact ⟨h1.2.1, h1.2.2, h.2⟩
  rw [Tg.wt_eq, val_of]
  rw [blank_of] at hb
  simp only [Tg.data, Tg.kids, Tg.lo, Tg.hi] at hk' ⊢
  by_cases h1 : k = 1
  · rw [if_pos h1] at hb ⊢
    obtain ⟨rfl, rfl, h⟩ := hp hb
    simp only [Bool.and_eq_true, emptyL_iff] at h
    obtain ⟨rfl, rfl⟩ := h
    simp [wt_listT, wt_atomT, Bd.none]
  rw [if_neg h1] at hb ⊢
  by_cases h2 : k = 2
  · rw [if_pos (.inl h2)] at hb
    rw [if_pos h2]
    obtain ⟨rfl, rfl, h⟩ := hp hb
    rw [emptyL_iff] at h
    subst h
    simp [wt_atomT, Bd.none]
  rw [if_neg h2]
  by_cases h5 : k = 5
  · rw [if_pos (.inr h5)] at hb
    rw [if_neg (by rw [h5]; decide), if_pos h5]
    obtain ⟨rfl, rfl, h⟩ := hp hb
    rw [emptyL_iff] at h
    subst h
    simp [wt_listT, wt_atomT, Bd.none]
    omega
  rw [if_neg (by simp [h2, h5])] at hb
  by_cases h4 : k = 4
  · rw [if_pos (.inr h4)] at hb
    rw [if_pos h4]
    obtain ⟨rfl, rfl, h⟩ := hp hb
    rw [emptyL_iff] at h
    subst h
    simp only [wt_listT, wt_atomT, List.map_cons, List.sum_cons, Bd.none, List.length_nil]
    omega
  rw [if_neg h4]
  by_cases h3 : k = 3
  · rw [if_pos (.inl h3)] at hb
    rw [if_neg h5, if_neg (by rw [h3]; decide)]
    obtain ⟨rfl, rfl, h⟩ := hp hb
    rw [emptyL_iff] at h
    subst h
    simp only [wt_listT, Bd.none, List.length_nil]
    omega
  rw [if_neg (by simp [h3, h4])] at hb
  simp only [Bool.and_eq_true, decide_eq_true_eq, emptyL_iff] at hb
  obtain ⟨h6, hm, rfl, rfl⟩ := hb
  rw [mayR] at hm
  simp only [Bool.and_eq_true] at hm
  have b1 := bd_wt (w := wG) hm.2.1
  have b2 := bd_wt (w := wL) hm.2.2
  rw [if_neg h5, if_pos h6]
  simp only [wt_listT, wt_atomT, List.map_cons, List.map_nil, List.map_append, List.sum_append, List.sum_cons, List.sum_nil, List.length_nil]
  omega
theorem nodes_le_wt : ∀ t : Tree, t.nodes ≤ t.wt := Tree.ind fun t ih => by
  rw [Tree.nodes_eq, Tree.wt_eq]
  have : ∀ l : List Tree, (∀ x ∈ l, x.nodes ≤ x.wt) → (l.map Tree.nodes).sum ≤ (l.map Tree.wt).sum := by
    intro l
    induction l with
    | nil => simp
    | cons x l ih =>
      intro h
      have h0 := h x (by simp)
      have := ih fun y hy => h y (by simp [hy])
      simp only [List.map_cons, List.sum_cons]
      omega
  have := this t.kids ih
  omega
section
variable {G : Nat → Option (List D)}
theorem tagreads_m (hG : G 2 = some powD) (v : Tree) (hv : v.wt ≤ 2000000) : Spec Tryz.prog G 7 [.g (treeC v)] (.one (.c (.v (.bool true)))) := by
  have hw := awake12_m (G := G) hG
  have g1 := great_m (G := G) v _ 0 rfl (by omega) (by omega)
  have t1 := tget_m (G := G) hG v rfl (by omega)
  have r1 := rGet12_m (G := G) v rfl (by omega)
  have s1 := sameref_m (G := G) v v _ _ rfl rfl (by omega)
  rw [same_t rfl] at s1
  have z1 := same12_m (G := G) zTg zTg _ _ rfl rfl (by simp [Tg.wt_eq, zTg, Tg.data, Tg.kids, Tg.lo, Tg.hi, Bd.none])
  rw [tsame_t rfl, zTg, tagC_mk] at z1
  have hu : ∀ u, (if v.may = true then getT isV v else none) = some u → u.val = v ∧ tMay u = true ∧ u.wt ≤ 2000000 ∧ u.nodes ≤ 512 := fun u h => by
    by_cases hm : v.may = true
    · rw [if_pos hm] at h
      have hm' := hm
      rw [Tree.may, Bool.and_eq_true, Bool.and_eq_true, Bool.and_eq_true] at hm'
      obtain ⟨hr, hval⟩ := get_ok v u hm'.1.1.1 h
      have h1 := wt_val u hr
      have h2 := val_nodes u hr
      have h3 := nodes_le_wt u.val
      rw [hval] at h1 h2 h3
      exact ⟨hval, by rw [tMay, hr, hval, hm]; rfl, by omega, by have := of_decide_eq_true hm'.1.1.2; omega⟩
    · rw [if_neg hm] at h
      cases h
  unfold getO at t1
  generalize v.great 0 = q1 at *
  have ev := treeC_eq v
  rw [ev] at g1 t1 r1 ⊢
  cases q1 with
  | true =>
    refine spec_of Tryz.func7 rfl rfl rfl (by kernel_rfl) rfl fun K => ?_
    (repeat' (first | with_reducible (first | refine zA fun Kn hK => ?_ | refine zB (by kernel_rfl) ?_ | refine Nx.go ?_ | go_step) | (refine ⟨_, g1, ?_⟩) | (refine ⟨_, hw, ?_⟩) | with_reducible (first | refine zI ?_ | refine zJ ?_ | refine zK ?_ ?_ | refine zL ?_ ?_ | refine zR (by kernel_rfl) ?_) | simp (maxSteps := 9999999) (disch := omega) only [wq] | (with_reducible refine zM (fun hb => ?_) (fun hb => ?_) <;> (try simp only [hb])) | (with_reducible refine And.intro (by first | omega | (simp; done) | (simp; omega)) ?_) | simp (maxSteps := 9999999) (implicitDefEqProofs := false) only [go_sem, true_and] | fail))
  | false =>
    generalize (if v.may = true then getT isV v else none) = o at *
    cases o with
    | none =>
      dsimp only at t1 r1
      rw [zTg, tagC_mk] at t1 r1
      unfold bD bytesD Bd.none at *
      refine spec_of Tryz.func7 rfl rfl rfl (by kernel_rfl) rfl fun K => ?_
      (repeat' (first | with_reducible (first | refine zA fun Kn hK => ?_ | refine zB (by kernel_rfl) ?_ | refine Nx.go ?_ | go_step) | (refine ⟨_, g1, ?_⟩) | (refine ⟨_, t1, ?_⟩) | (refine ⟨_, r1, ?_⟩) | (refine ⟨_, z1, ?_⟩) | (refine ⟨_, hw, ?_⟩) | with_reducible (first | refine zI ?_ | refine zJ ?_ | refine zK ?_ ?_ | refine zL ?_ ?_ | refine zR (by kernel_rfl) ?_) | simp (maxSteps := 9999999) (disch := omega) only [wq] | (with_reducible refine zM (fun hb => ?_) (fun hb => ?_) <;> (try simp only [hb])) | (with_reducible refine And.intro (by first | omega | (simp; done) | (simp; omega)) ?_) | simp (maxSteps := 9999999) (implicitDefEqProofs := false) only [go_sem, Bool.true_and, decide_true] | fail))
    | some u =>
      obtain ⟨hval, hm, huw, hun⟩ := hu u rfl
      dsimp only at t1 r1
      have p1 := tput_m (G := G) hG u rfl (by omega) (by omega)
      rw [hm, if_pos rfl, hval] at p1
      have m1 := rmay12_m (G := G) u rfl (by omega) (by omega)
      rw [← tMay, hm] at m1
      have y1 := same12_m (G := G) u u _ _ rfl rfl (by omega)
      rw [tsame_t rfl] at y1
      rw [ev] at p1 s1
      rw [tagC_eq] at t1 r1 p1 m1 y1
      unfold bD bytesD at *
      refine spec_of Tryz.func7 rfl rfl rfl (by kernel_rfl) rfl fun K => ?_
      (repeat' (first | with_reducible (first | refine zA fun Kn hK => ?_ | refine zB (by kernel_rfl) ?_ | refine Nx.go ?_ | go_step) | (refine ⟨_, g1, ?_⟩) | (refine ⟨_, t1, ?_⟩) | (refine ⟨_, r1, ?_⟩) | (refine ⟨_, p1, ?_⟩) | (refine ⟨_, m1, ?_⟩) | (refine ⟨_, y1, ?_⟩) | (refine ⟨_, s1, ?_⟩) | (refine ⟨_, hw, ?_⟩) | with_reducible (first | refine zI ?_ | refine zJ ?_ | refine zK ?_ ?_ | refine zL ?_ ?_ | refine zR (by kernel_rfl) ?_) | simp (maxSteps := 9999999) (disch := omega) only [wq] | (with_reducible refine zM (fun hb => ?_) (fun hb => ?_) <;> (try simp only [hb])) | (with_reducible refine And.intro (by first | omega | (simp; done) | (simp; omega)) ?_) | simp (maxSteps := 9999999) (implicitDefEqProofs := false) only [go_sem, Bool.true_and, decide_true] | fail))
end
end Go.Proofs.YtbeghpkkpnbkgaaGreatDoor
/- The laws of tags, on: writing; lists. -/
namespace Go.Proofs.YtbeghpkkpnbkgaaGreatDoor
open Go.RowKit
section
variable {G : Nat → Option (List D)}
theorem zeroC_same : Spec Tryz.prog G 21 [.g zeroC, .g zeroC] (.one (.c (.v (.bool true)))) := by
  have h := sameref_m (G := G) (.mk false false [] [] []) (.mk false false [] [] []) _ _ rfl rfl (by simp [Tree.wt_eq, Tree.hint, Tree.data, Tree.kids])
  rw [same_t rfl, treeC_mk] at h
  exact h
theorem tagwrites_m (hG : G 2 = some powD) (t : Tg) (ht : t.wt ≤ 2000000) : Spec Tryz.prog G 6 [.g (tagC t)] (.one (.c (.v (.bool true)))) := by
  have hw := awake12_m (G := G) hG
  have g1 := great12_m (G := G) t _ 0 rfl (by omega) (by omega)
  have hgn := great_nodes (t := t)
  cases hq : t.great 0 with
  | true =>
    rw [hq] at g1
    rw [tagC_eq] at g1 ⊢
    unfold bD bytesD at *
    refine spec_of Tryz.func6 rfl rfl rfl (by kernel_rfl) rfl fun K => ?_
    (repeat' (first | with_reducible (first | refine zA fun Kn hK => ?_ | refine zB (by kernel_rfl) ?_ | refine Nx.go ?_ | go_step) | (refine ⟨_, g1, ?_⟩) | (refine ⟨_, hw, ?_⟩) | with_reducible (first | refine zI ?_ | refine zJ ?_ | refine zK ?_ ?_ | refine zL ?_ ?_ | refine zR (by kernel_rfl) ?_) | simp (maxSteps := 9999999) (disch := omega) only [wq] | (with_reducible refine zM (fun hb => ?_) (fun hb => ?_) <;> (try simp only [hb])) | (with_reducible refine And.intro (by first | omega | (simp; done) | (simp; omega)) ?_) | simp (maxSteps := 9999999) (implicitDefEqProofs := false) only [go_sem, true_and] | fail))
  | false =>
    rw [hq] at g1
    have hn := hgn hq
    have hvw := val_wt t
    have p1 := tput_m (G := G) hG t rfl (by omega) (by omega)
    have m1 := tmay_m (G := G) hG t rfl (by omega) (by omega)
    have m2 := rmay12_m (G := G) t rfl (by omega) (by omega)
    rw [← tMay] at m2
    cases hm : tMay t with
    | false =>
      rw [hm] at p1 m1 m2
      rw [if_neg (by simp)] at p1
      have z1 := zeroC_same (G := G)
      rw [tagC_eq] at g1 p1 m1 m2 ⊢
      unfold zeroC bD bytesD at *
      refine spec_of Tryz.func6 rfl rfl rfl (by kernel_rfl) rfl fun K => ?_
      (repeat' (first | with_reducible (first | refine zA fun Kn hK => ?_ | refine zB (by kernel_rfl) ?_ | refine Nx.go ?_ | go_step) | (refine ⟨_, g1, ?_⟩) | (refine ⟨_, p1, ?_⟩) | (refine ⟨_, m1, ?_⟩) | (refine ⟨_, m2, ?_⟩) | (refine ⟨_, z1, ?_⟩) | (refine ⟨_, hw, ?_⟩) | with_reducible (first | refine zI ?_ | refine zJ ?_ | refine zK ?_ ?_ | refine zL ?_ ?_ | refine zR (by kernel_rfl) ?_) | simp (maxSteps := 9999999) (disch := omega) only [wq] | (with_reducible refine zM (fun hb => ?_) (fun hb => ?_) <;> (try simp only [hb])) | (with_reducible refine And.intro (by first | omega | (simp; done) | (simp; omega)) ?_) | simp (maxSteps := 9999999) (implicitDefEqProofs := false) only [go_sem, Bool.true_and, decide_true] | fail))
    | true =>
      rw [hm] at p1 m1 m2
      rw [if_pos rfl] at p1
      rw [tMay, Bool.and_eq_true] at hm
      have t1 := tget_m (G := G) hG t.val rfl (by omega)
      unfold getO at t1
      rw [hm.2, if_pos rfl, put_ok t hm.1] at t1
      dsimp only at t1
      have v1 := rvalue12_m (G := G) t _ rfl (by omega) hm.1
      have s1 := sameref_m (G := G) t.val t.val _ _ rfl rfl (by omega)
      rw [same_t rfl] at s1
      have y1 := same12_m (G := G) t t _ _ rfl rfl (by omega)
      rw [tsame_t rfl] at y1
      have ev := treeC_eq t.val
      generalize treeC t.val = T at *
      rw [ev] at p1 t1 v1 s1
      rw [tagC_eq] at g1 p1 m1 m2 t1 v1 y1 ⊢
      unfold bD bytesD at *
      refine spec_of Tryz.func6 rfl rfl rfl (by kernel_rfl) rfl fun K => ?_
      (repeat' (first | with_reducible (first | refine zA fun Kn hK => ?_ | refine zB (by kernel_rfl) ?_ | refine Nx.go ?_ | go_step) | (refine ⟨_, g1, ?_⟩) | (refine ⟨_, p1, ?_⟩) | (refine ⟨_, m1, ?_⟩) | (refine ⟨_, m2, ?_⟩) | (refine ⟨_, t1, ?_⟩) | (refine ⟨_, v1, ?_⟩) | (refine ⟨_, s1, ?_⟩) | (refine ⟨_, y1, ?_⟩) | (refine ⟨_, hw, ?_⟩) | with_reducible (first | refine zI ?_ | refine zJ ?_ | refine zK ?_ ?_ | refine zL ?_ ?_ | refine zR (by kernel_rfl) ?_) | simp (maxSteps := 9999999) (disch := omega) only [wq] | (with_reducible refine zM (fun hb => ?_) (fun hb => ?_) <;> (try simp only [hb])) | (with_reducible refine And.intro (by first | omega | (simp; done) | (simp; omega)) ?_) | simp (maxSteps := 9999999) (implicitDefEqProofs := false) only [go_sem, Bool.true_and, decide_true] | fail))
end
end Go.Proofs.YtbeghpkkpnbkgaaGreatDoor
/- The laws of tags, on: lists. -/
namespace Go.Proofs.YtbeghpkkpnbkgaaGreatDoor
open Go.RowKit
section
variable {G : Nat → Option (List D)}
theorem taglists_m (hG : G 2 = some powD) (l : List Tg) (hw : (l.map Tg.wt).sum ≤ 2000000) : Spec Tryz.prog G 3 [.c (.sl l.length (l.flatMap tagC))] (.one (.c (.v (.bool true)))) := by
  have haw := awake12_m (G := G) hG
  by_cases hl : l.length ≤ 20
  · have d0 : decide ((l.length : Int) > 20) = false := by simp; omega
    refine spec_of Tryz.func3 rfl rfl rfl (by kernel_rfl) rfl fun K => ?_
    (repeat' (first | with_reducible (first | refine zA fun Kn hK => ?_ | refine zB (by kernel_rfl) ?_ | refine Nx.go ?_ | go_step) | fail | with_reducible (first | refine zI ?_ | refine zJ ?_ | refine zK ?_ ?_ | refine zL ?_ ?_ | refine zR (by kernel_rfl) ?_) | simp (maxSteps := 9999999) (disch := omega) only [wq] | (with_reducible refine zM (fun hb => ?_) (fun hb => ?_) <;> (try simp only [hb])) | (with_reducible refine And.intro (by first | omega | (simp; done) | (simp; omega)) ?_) | simp (maxSteps := 9999999) (implicitDefEqProofs := false) only [go_sem, d0] | fail))
    refine sound_voidC 3 4 1000 5 27 (by rfl) (by rfl) (by rfl) (by rfl) ?_
    refine sound_loopR (fun x : {k : Nat // k ≤ l.length ∧ ∀ y ∈ l.take k, y.right isV = true ∧ y.nodes ≤ 1000} => ⟨[(0, vD (.sl l.length (l.flatMap tagC))), (3, vP 3 0), (4, vI x.1)], [(3, some ⟨27, [.d (.v (.bool true)), .d (.v (.bool false)), .nil, .nil, .row 1000 5 0 x.1 .grow], true, false⟩), (1000, some ⟨27, ((l.take x.1).flatMap fun x => treeC x.val).map C.d, false, false⟩)]⟩) (fun x => l.length - x.1) ⟨0, by simp⟩ [] (by (iterate 2 ((try simp (maxSteps := 9999999) (implicitDefEqProofs := false) only [go_sem, bD, List.take_zero, List.flatMap_nil, List.map_nil]); (try simp (maxSteps := 9999999) (disch := omega) only [wq]))); try simp) (fun ⟨k, hk, hall⟩ => ?_)
    by_cases hlt : k < l.length
    · obtain ⟨x, hx⟩ : ∃ x, l[k]? = some x := ⟨_, List.getElem?_eq_getElem hlt⟩
      have hb : decide ((k : Int) < (l.length : Int)) = true := by simpa using hlt
      have hxw : x.wt ≤ 2000000 := by
        have := tsum_mem Tg.wt (List.mem_of_getElem? hx)
        omega
      have g1 := great12_m (G := G) x _ 0 rfl (by omega) (by omega)
      have hgn := great_nodes (t := x)
      cases hq : x.great 0 with
      | true =>
        rw [hq] at g1
        (repeat' (first | with_reducible (first | refine zA fun Kn hK => ?_ | refine zB (by kernel_rfl) ?_ | refine Nx.go ?_ | go_step) | (refine ⟨_, g1, ?_⟩) | (refine ⟨_, haw, ?_⟩) | with_reducible (first | refine zI ?_ | refine zJ ?_ | refine zK ?_ ?_ | refine zL ?_ ?_ | refine zR (by kernel_rfl) ?_) | simp (maxSteps := 9999999) (disch := omega) only [wq] | (with_reducible refine zM (fun hb => ?_) (fun hb => ?_) <;> (try simp only [hb])) | (with_reducible refine And.intro (by first | omega | (simp; done) | (simp; omega)) ?_) | simp (maxSteps := 9999999) (implicitDefEqProofs := false) only [go_sem, hb, flat_at tagC_len hx, decide_true] | fail))
      | false =>
        rw [hq] at g1
        have hn := hgn hq
        have m2 := rmay12_m (G := G) x rfl (by omega) (by omega)
        rw [← tMay] at m2
        cases hm : tMay x with
        | false =>
          rw [hm] at m2
          (repeat' (first | with_reducible (first | refine zA fun Kn hK => ?_ | refine zB (by kernel_rfl) ?_ | refine Nx.go ?_ | go_step) | (refine ⟨_, g1, ?_⟩) | (refine ⟨_, m2, ?_⟩) | (refine ⟨_, haw, ?_⟩) | with_reducible (first | refine zI ?_ | refine zJ ?_ | refine zK ?_ ?_ | refine zL ?_ ?_ | refine zR (by kernel_rfl) ?_) | simp (maxSteps := 9999999) (disch := omega) only [wq] | (with_reducible refine zM (fun hb => ?_) (fun hb => ?_) <;> (try simp only [hb])) | (with_reducible refine And.intro (by first | omega | (simp; done) | (simp; omega)) ?_) | simp (maxSteps := 9999999) (implicitDefEqProofs := false) only [go_sem, hb, flat_at tagC_len hx, decide_true] | fail))
        | true =>
          rw [hm] at m2
          rw [tMay, Bool.and_eq_true] at hm
          have v1 := rvalue12_m (G := G) x _ rfl (by omega) hm.1
          have ht : (l.take (k + 1)).flatMap (fun x => treeC x.val) = (l.take k).flatMap (fun x => treeC x.val) ++ treeC x.val := by
            rw [List.take_add_one, hx, List.flatMap_append]
            simp
          have hlen : ((l.take k).flatMap fun x => treeC x.val).length = k * 5 := by
            rw [show ((l.take k).flatMap fun x => treeC x.val) = ((l.take k).map Tg.val).flatMap treeC from by rw [List.flatMap_map], treeC_flen, List.length_map, List.length_take, Nat.min_eq_left hk]
          have hall2 : ∀ y ∈ l.take (k + 1), y.right isV = true ∧ y.nodes ≤ 1000 := by
            intro y hy
            rw [List.take_add_one, hx] at hy
            rcases List.mem_append.1 hy with h | h
            · exact hall y h
            · simp at h
              rw [h]
              exact ⟨hm.1, hn⟩
          generalize (l.take k).flatMap (fun x => treeC x.val) = W at *
          (repeat' (first | with_reducible (first | refine zA fun Kn hK => ?_ | refine zB (by kernel_rfl) ?_ | refine Nx.go ?_ | go_step) | (refine ⟨_, g1, ?_⟩) | (refine ⟨_, m2, ?_⟩) | (refine ⟨_, v1, ?_⟩) | (refine ⟨_, haw, ?_⟩) | with_reducible (first | refine zI ?_ | refine zJ ?_ | refine zK ?_ ?_ | refine zL ?_ ?_ | refine zR (by kernel_rfl) ?_) | simp (maxSteps := 9999999) (disch := omega) only [wq] | (with_reducible refine zM (fun hb => ?_) (fun hb => ?_) <;> (try simp only [hb])) | (with_reducible refine And.intro (by first | omega | (simp; done) | (simp; omega)) ?_) | simp (maxSteps := 9999999) (implicitDefEqProofs := false) only [go_sem, hb, rep1, hlen, List.length_map, true_and, Nat.le_refl, List.append_nil, flat_at tagC_len hx, decide_true] | fail))
          refine ⟨[(1000, 40)], ⟨k + 1, hlt, hall2⟩, ?_⟩
          rw [ht]
          (iterate 2 ((try simp (maxSteps := 9999999) (implicitDefEqProofs := false) only [go_sem, bD]); (try simp (maxSteps := 9999999) (disch := omega) only [wq])))
          (simp only [ijq, true_and, and_true]; first | done | omega | (split <;> omega) | (simp; done) | (simp; omega))
    · have hb : decide ((k : Int) < (l.length : Int)) = false := by simpa using hlt
      obtain rfl : k = l.length := by omega
      rw [List.take_length] at hall
      simp only [List.take_length]
      have hr : ∀ x ∈ l, x.right isV = true := fun x hx => (hall x hx).1
      have hT : (listT (l.map Tg.val)).wt ≤ 10000000 := by
        have : ∀ m : List Tg, (∀ y ∈ m, y.nodes ≤ 1000) → ((m.map Tg.val).map Tree.wt).sum ≤ (m.map Tg.wt).sum + 40000 * m.length := by
          intro m
          induction m with
          | nil => simp
          | cons x m ih =>
            intro h
            have h0 := h x (by simp)
            have h1 := ih fun y hy => h y (by simp [hy])
            have h2 := val_wt x
            simp only [List.map_cons, List.sum_cons, List.length_cons]
            omega
        have := this l fun y hy => (hall y hy).2
        rw [wt_listT]
        omega
      have t1 := tget_m (G := G) hG (listT (l.map Tg.val)) rfl hT
      have m1 := may_m (G := G) (listT (l.map Tg.val)) rfl hT
      unfold getO at t1
      have ev : treeC (listT (l.map Tg.val)) = [.v (.bool true), .v (.bool false), .sl 0 [], .sl 0 [], .sl l.length (l.flatMap fun x => treeC x.val)] := by
        rw [listT, treeC_mk, List.length_map, List.flatMap_map]
        rfl
      rw [ev] at t1 m1
      have hlen : (l.flatMap fun x => treeC x.val).length = l.length * 5 := by
        rw [show (l.flatMap fun x => treeC x.val) = (l.map Tg.val).flatMap treeC from by rw [List.flatMap_map], treeC_flen, List.length_map]
      clear ev
      have hg := fun h => list_get (isV := isV) (l := l) hr h
      have fin : ∀ (o : Option Tg) (c : Bool), Spec Tryz.prog G 12 [.g [.v (.bool true), .v (.bool false), .sl 0 [], .sl 0 [], .sl l.length (l.flatMap fun x => treeC x.val)]] (match o with
          | some t => .many [.g (tagC t), .c (.v (.int .i64 0))]
          | none => .many [.g (tagC zTg), .c (.v (.int .i64 13))]) → ∃ (u : Tg) (e : Int), Spec Tryz.prog G 12 [.g [.v (.bool true), .v (.bool false), .sl 0 [], .sl 0 [], .sl l.length (l.flatMap fun x => treeC x.val)]] (.many [.g (tagC u), .c (.v (.int .i64 e))]) := fun o c h => by
        cases o with
        | none => exact ⟨_, _, h⟩
        | some u => exact ⟨_, _, h⟩
      cases hm : (listT (l.map Tg.val)).may with
      | false =>
        rw [hm] at m1
        obtain ⟨u, e, t2⟩ := fin _ true t1
        rw [tagC_eq u] at t2
        generalize (l.flatMap fun x => treeC x.val) = W at *
        (repeat' (first | with_reducible (first | refine zA fun Kn hK => ?_ | refine zB (by kernel_rfl) ?_ | refine Nx.go ?_ | go_step) | (refine ⟨none, ?_⟩) | (refine ⟨_, t2, ?_⟩) | (refine ⟨_, m1, ?_⟩) | (refine ⟨_, haw, ?_⟩) | with_reducible (first | refine zI ?_ | refine zJ ?_ | refine zK ?_ ?_ | refine zL ?_ ?_ | refine zR (by kernel_rfl) ?_) | simp (maxSteps := 9999999) (disch := omega) only [wq] | (with_reducible refine zM (fun hb => ?_) (fun hb => ?_) <;> (try simp only [hb])) | (with_reducible refine And.intro (by first | omega | (simp; done) | (simp; omega)) ?_) | simp (maxSteps := 9999999) (implicitDefEqProofs := false) only [go_sem, hb, hlen, bD, bytesD, List.length_map, decide_true] | fail))
      | true =>
        rw [hm] at m1
        rw [hm, if_pos rfl] at t1
        by_cases hk0 : l = []
        · have hh : headA l = false := by rw [hk0]; rfl
          rw [hg hh] at t1
          dsimp only at t1
          have y1 := same12_m (G := G) (kTg 3 l) (kTg 3 l) _ _ rfl rfl (by rw [Tg.wt_eq]; simp [kTg, Tg.data, Tg.kids, Tg.lo, Tg.hi, Bd.none]; omega)
          rw [tsame_t rfl] at y1
          rw [kTg, tagC_mk] at t1 y1
          have ek : decide ((l.length : Int) > 0) = false := by rw [hk0]; rfl
          clear hk0
          generalize (l.flatMap fun x => treeC x.val) = W at *
          unfold bD bytesD Bd.none at *
          (repeat' (first | with_reducible (first | refine zA fun Kn hK => ?_ | refine zB (by kernel_rfl) ?_ | refine Nx.go ?_ | go_step) | (refine ⟨none, ?_⟩) | (refine ⟨_, t1, ?_⟩) | (refine ⟨_, m1, ?_⟩) | (refine ⟨_, y1, ?_⟩) | (refine ⟨_, haw, ?_⟩) | with_reducible (first | refine zI ?_ | refine zJ ?_ | refine zK ?_ ?_ | refine zL ?_ ?_ | refine zR (by kernel_rfl) ?_) | simp (maxSteps := 9999999) (disch := omega) only [wq] | (with_reducible refine zM (fun hb => ?_) (fun hb => ?_) <;> (try simp only [hb])) | (with_reducible refine And.intro (by first | omega | (simp; done) | (simp; omega)) ?_) | simp (maxSteps := 9999999) (implicitDefEqProofs := false) only [go_sem, hb, hlen, ek, bD, bytesD, List.length_map, decide_true] | fail))
        · obtain ⟨x, m, hkc⟩ := List.exists_cons_of_ne_nil hk0
          have hh : headA l = (decide (x.kind = 2) && decide (x.data = wStar)) := by rw [hkc]; rfl
          have ek : decide ((l.length : Int) > 0) = true := by rw [hkc, List.length_cons]; simp
          have n1 : (0 : Int) < (l.length : Int) := by rw [hkc, List.length_cons]; omega
          have n1' : 0 < l.length := by omega
          have hx : l[0]? = some x := by rw [hkc]; rfl
          have f2 := ordN_neq (x := x)
          have f3 : (x.data == [42]) = decide (x.data = wStar) := Bool.beq_eq_decide_eq _ _
          clear hkc hk0
          have hF := flat_at (f := tagC) tagC_len hx
          simp only [Nat.zero_mul, List.drop_zero] at hF
          have kk : ∀ i, i < 10 → (l.flatMap tagC)[i]? = (tagC x)[i]? := fun i hi => by rw [← hF, List.getElem?_take, if_pos hi]
          have c0 := kk 0 (by omega)
          have c1 := kk 1 (by omega)
          clear kk
          rw [tagC_eq] at c0 c1
          simp only [List.getElem?_cons_zero, List.getElem?_cons_succ, bD, bytesD] at c0 c1
          rw [hh] at hg
          cases hy1 : decide (x.kind = 2) && decide (x.data = wStar) with
          | false =>
            rw [hg hy1] at t1
            dsimp only at t1
            have y1 := same12_m (G := G) (kTg 3 l) (kTg 3 l) _ _ rfl rfl (by rw [Tg.wt_eq]; simp [kTg, Tg.data, Tg.kids, Tg.lo, Tg.hi, Bd.none]; omega)
            rw [tsame_t rfl] at y1
            rw [kTg, tagC_mk] at t1 y1
            generalize (l.flatMap fun x => treeC x.val) = W at *
            generalize decide (x.kind = 2) = z1 at *
            generalize decide (x.data = wStar) = z2 at *
            unfold bD bytesD Bd.none at t1 y1
            cases z1 <;> cases z2
            case true.true => cases hy1
            all_goals
              (repeat' (first | with_reducible (first | refine zA fun Kn hK => ?_ | refine zB (by kernel_rfl) ?_ | refine Nx.go ?_ | go_step) | (refine ⟨none, ?_⟩) | (refine ⟨x.data, ?_⟩) | (refine ⟨_, t1, ?_⟩) | (refine ⟨_, m1, ?_⟩) | (refine ⟨_, y1, ?_⟩) | (refine ⟨_, haw, ?_⟩) | with_reducible (first | refine zI ?_ | refine zJ ?_ | refine zK ?_ ?_ | refine zL ?_ ?_ | refine zR (by kernel_rfl) ?_) | simp (maxSteps := 9999999) (disch := omega) only [wq] | (with_reducible refine zM (fun hb => ?_) (fun hb => ?_) <;> (try simp only [hb])) | (with_reducible refine And.intro (by first | omega | (simp; done) | (simp; omega)) ?_) | simp (maxSteps := 9999999) (implicitDefEqProofs := false) only [go_sem, hb, hlen, ek, n1, n1', c0, c1, f2, f3, bD, bytesD, List.length_map, decide_true] | fail))
          | true =>
            rw [Bool.and_eq_true] at hy1
            rw [hy1.1] at f2
            rw [hy1.2] at f3
            obtain ⟨u, e, t2⟩ := fin _ true t1
            rw [tagC_eq u] at t2
            generalize (l.flatMap fun x => treeC x.val) = W at *
            unfold bD bytesD at t2
            (repeat' (first | with_reducible (first | refine zA fun Kn hK => ?_ | refine zB (by kernel_rfl) ?_ | refine Nx.go ?_ | go_step) | (refine ⟨none, ?_⟩) | (refine ⟨x.data, ?_⟩) | (refine ⟨_, t2, ?_⟩) | (refine ⟨_, m1, ?_⟩) | (refine ⟨_, haw, ?_⟩) | with_reducible (first | refine zI ?_ | refine zJ ?_ | refine zK ?_ ?_ | refine zL ?_ ?_ | refine zR (by kernel_rfl) ?_) | simp (maxSteps := 9999999) (disch := omega) only [wq] | (with_reducible refine zM (fun hb => ?_) (fun hb => ?_) <;> (try simp only [hb])) | (with_reducible refine And.intro (by first | omega | (simp; done) | (simp; omega)) ?_) | simp (maxSteps := 9999999) (implicitDefEqProofs := false) only [go_sem, hb, hlen, ek, n1, n1', c0, c1, f2, f3, bD, bytesD, List.length_map, decide_true] | fail))
  · have d0 : decide ((l.length : Int) > 20) = true := by simp; omega
    refine spec_of Tryz.func3 rfl rfl rfl (by kernel_rfl) rfl fun K => ?_
    (repeat' (first | with_reducible (first | refine zA fun Kn hK => ?_ | refine zB (by kernel_rfl) ?_ | refine Nx.go ?_ | go_step) | (refine ⟨_, haw, ?_⟩) | with_reducible (first | refine zI ?_ | refine zJ ?_ | refine zK ?_ ?_ | refine zL ?_ ?_ | refine zR (by kernel_rfl) ?_) | simp (maxSteps := 9999999) (disch := omega) only [wq] | (with_reducible refine zM (fun hb => ?_) (fun hb => ?_) <;> (try simp only [hb])) | (with_reducible refine And.intro (by first | omega | (simp; done) | (simp; omega)) ?_) | simp (maxSteps := 9999999) (implicitDefEqProofs := false) only [go_sem, d0] | fail))
end
end Go.Proofs.YtbeghpkkpnbkgaaGreatDoor
