/- Parts of the proof, laid together. -/
import Derived.Test.YtdakeodebgggfaaDoorJ3
import Derived.Shelf.Strconv.Itoa0
import Derived.Shelf.Strconv.Itoa1
import Derived.Shelf.LaysM
import Derived.Shelf.Strconv.Itoa2
import Derived.Shelf.Strconv.Itoa3
import Derived.Shelf.Bytes.SlSearch0
import Derived.Ground.SlbCloneProg
import Derived.Shelf.Bytes.SlClone
import Derived.Shelf.Bytes.SlEqualAll
import Derived.Shelf.Bytes.Small
import Derived.Test.YtdakeodebgggfaaDoorProg
import Derived.Lib.AppendIntMem
import Derived.Test.YtdakeodebgggfaaDoorCards
import Derived.Test.YtdakeodebgggfaaDoorTie
import Derived.WalkKit
import Derived.ProofKit
import Derived.OpenShut
import Derived.Deep.DeepHandedRow
import Derived.Lib.LaidTab
import Derived.Stop.LaidErr

/- The reference's tellings of a value: depth, greatness, form. -/
namespace Go.Proofs.YtdakeodebgggfaaDoor
open Go.RowKit
set_option linter.unusedVariables false
set_option linter.unusedSimpArgs false
set_option maxRecDepth 100000
set_option maxHeartbeats 2000000

theorem most_at {l : List Tree} {k : Nat} {x : Tree} (h : l[k]? = some x) : most ((l.take (k + 1)).map Tree.deep) = max (most ((l.take k).map Tree.deep)) x.deep := by
  rw [List.take_add_one, h]
  simp [most_snoc]
theorem most_take {l : List Tree} {k n : Nat} (h : ∀ x ∈ l, x.deep ≤ n) : most ((l.take k).map Tree.deep) ≤ n := by
  rw [most_le]
  intro j hj
  obtain ⟨x, hx, rfl⟩ := List.mem_map.1 hj
  exact h x (List.mem_of_mem_take hx)
theorem deep_m {G : Nat → Option (List D)} : ∀ t : Tree, ∀ cs : List D, treeC t = cs → t.wt ≤ 1000000000 → Spec Tryd.prog G 45 [.g cs] (.one (.c (.v (.int .i64 t.deep)))) := Tree.ind fun t ih cs hcs hw => by
  subst hcs
  refine spec_of Tryd.func45 rfl rfl rfl (by kernel_rfl) rfl fun K => ?_
  rw [treeC_eq]
  cases hl : t.list with
  | false =>
    (repeat' (first | with_reducible refine sound_seq_k fun Kn hK => ?_ | with_reducible refine sound_region (by kernel_rfl) ?_ | with_reducible refine sound_drawn (by kernel_rfl) (by kernel_rfl) ?_ | with_reducible refine sound_block ?_ | with_reducible refine sound_if ?_ | with_reducible refine sound_ret ?_ | with_reducible refine sound_skip ?_ | with_reducible refine sound_exit ?_ | (with_reducible refine hK _ ?_; clear hK; clear Kn) | (clear hK; clear Kn; with_reducible refine hK _ ?_; clear hK; clear Kn) | (clear hK; clear Kn; clear hK; clear Kn; with_reducible refine hK _ ?_; clear hK; clear Kn) | fail | with_reducible refine ex_bytes ?_ | with_reducible refine loopU_step ?_ | with_reducible refine retO_ret ?_ ?_ | with_reducible refine retO_normal ?_ ?_ | with_reducible refine And.intro (show logOk _ _ = true by kernel_rfl) ?_ | simp (maxSteps := 10000000) (implicitDefEqProofs := false) (disch := omega) only [wrap_id, wrap8, max_r, max_l, min_r, min_l] | (with_reducible refine br_intro (fun hb => ?_) (fun hb => ?_) <;> (try simp only [hb])) | (with_reducible refine And.intro (by first | omega | (simp; done) | (simp; omega)) ?_) | simp (maxSteps := 10000000) (implicitDefEqProofs := false) only [go_sem, Nat.reduceEqDiff, Nat.reduceBEq, ↓reduceIte, Nat.reduceAdd, Nat.reduceMul, Nat.reduceSub, Nat.reduceLeDiff, Nat.reduceLT, reduceCtorEq, Int.reduceLE, Int.reduceLT, Int.reduceToNat, Int.reduceBEq, hl] | fail))
    rw [t.deep_eq, hl]
    rfl
  | true =>
    (repeat' (first | with_reducible refine sound_seq_k fun Kn hK => ?_ | with_reducible refine sound_region (by kernel_rfl) ?_ | with_reducible refine sound_drawn (by kernel_rfl) (by kernel_rfl) ?_ | with_reducible refine sound_block ?_ | with_reducible refine sound_if ?_ | with_reducible refine sound_ret ?_ | with_reducible refine sound_skip ?_ | with_reducible refine sound_exit ?_ | (with_reducible refine hK _ ?_; clear hK; clear Kn) | (clear hK; clear Kn; with_reducible refine hK _ ?_; clear hK; clear Kn) | (clear hK; clear Kn; clear hK; clear Kn; with_reducible refine hK _ ?_; clear hK; clear Kn) | fail | with_reducible refine ex_bytes ?_ | with_reducible refine loopU_step ?_ | with_reducible refine retO_ret ?_ ?_ | with_reducible refine retO_normal ?_ ?_ | with_reducible refine And.intro (show logOk _ _ = true by kernel_rfl) ?_ | simp (maxSteps := 10000000) (implicitDefEqProofs := false) (disch := omega) only [wrap_id, wrap8, max_r, max_l, min_r, min_l] | (with_reducible refine br_intro (fun hb => ?_) (fun hb => ?_) <;> (try simp only [hb])) | (with_reducible refine And.intro (by first | omega | (simp; done) | (simp; omega)) ?_) | simp (maxSteps := 10000000) (implicitDefEqProofs := false) only [go_sem, Nat.reduceEqDiff, Nat.reduceBEq, ↓reduceIte, Nat.reduceAdd, Nat.reduceMul, Nat.reduceSub, Nat.reduceLeDiff, Nat.reduceLT, reduceCtorEq, Int.reduceLE, Int.reduceLT, Int.reduceToNat, Int.reduceBEq, hl] | fail))
    refine sound_loopR (fun x : {k : Nat // k ≤ t.kids.length} => ⟨[(1, vP 1 0), (3, vI (most ((t.kids.take x.1).map Tree.deep) : Nat)), (10, vI t.kids.length), (11, vI x.1)], [(1, some ⟨25, treeK t, true, false⟩)]⟩) (fun x => t.kids.length - x.1) ⟨0, by omega⟩ [] (by (simp (maxSteps := 10000000) (implicitDefEqProofs := false) only [go_sem, Nat.reduceEqDiff, Nat.reduceBEq, ↓reduceIte, Nat.reduceAdd, Nat.reduceMul, Nat.reduceSub, Nat.reduceLeDiff, Nat.reduceLT, reduceCtorEq, Int.reduceLE, Int.reduceLT, Int.reduceToNat, Int.reduceBEq, hl]); (try simp (maxSteps := 10000000) (implicitDefEqProofs := false) (disch := omega) only [wrap_id, wrap8, max_r, max_l, min_r, min_l]); (try simp (maxSteps := 10000000) (implicitDefEqProofs := false) only [go_sem, Nat.reduceEqDiff, Nat.reduceBEq, ↓reduceIte, Nat.reduceAdd, Nat.reduceMul, Nat.reduceSub, Nat.reduceLeDiff, Nat.reduceLT, reduceCtorEq, Int.reduceLE, Int.reduceLT, Int.reduceToNat, Int.reduceBEq, hl]); simp [most]) (fun ⟨k, hk⟩ => ?_)
    have h5 := t.wt_kids
    have h6 : most ((t.kids.take k).map Tree.deep) ≤ 1000000000 := most_take fun x hx => by have := x.deep_wt; have := Tree.wt_kid hx; omega
    by_cases hlt : k < t.kids.length
    · obtain ⟨x, hx⟩ : ∃ x, t.kids[k]? = some x := ⟨_, List.getElem?_eq_getElem hlt⟩
      have hb : decide ((k : Int) < (t.kids.length : Int)) = true := by simpa using hlt
      have hm := List.mem_of_getElem? hx
      (repeat' (first | with_reducible refine sound_seq_k fun Kn hK => ?_ | with_reducible refine sound_region (by kernel_rfl) ?_ | with_reducible refine sound_drawn (by kernel_rfl) (by kernel_rfl) ?_ | with_reducible refine sound_block ?_ | with_reducible refine sound_if ?_ | with_reducible refine sound_ret ?_ | with_reducible refine sound_skip ?_ | with_reducible refine sound_exit ?_ | (with_reducible refine hK _ ?_; clear hK; clear Kn) | (clear hK; clear Kn; with_reducible refine hK _ ?_; clear hK; clear Kn) | (clear hK; clear Kn; clear hK; clear Kn; with_reducible refine hK _ ?_; clear hK; clear Kn) | (refine ⟨_, ih x hm _ rfl (by have := Tree.wt_kid hm; omega), ?_⟩) | with_reducible refine ex_bytes ?_ | with_reducible refine loopU_step ?_ | with_reducible refine retO_ret ?_ ?_ | with_reducible refine retO_normal ?_ ?_ | with_reducible refine And.intro (show logOk _ _ = true by kernel_rfl) ?_ | simp (maxSteps := 10000000) (implicitDefEqProofs := false) (disch := omega) only [wrap_id, wrap8, max_r, max_l, min_r, min_l] | (with_reducible refine br_intro (fun hb => ?_) (fun hb => ?_) <;> (try simp only [hb])) | (with_reducible refine And.intro (by first | omega | (simp; done) | (simp; omega)) ?_) | simp (maxSteps := 10000000) (implicitDefEqProofs := false) only [go_sem, Nat.reduceEqDiff, Nat.reduceBEq, ↓reduceIte, Nat.reduceAdd, Nat.reduceMul, Nat.reduceSub, Nat.reduceLeDiff, Nat.reduceLT, reduceCtorEq, Int.reduceLE, Int.reduceLT, Int.reduceToNat, Int.reduceBEq, hb, flat_at treeC_len hx] | fail))
      refine ⟨[], ⟨k + 1, hlt⟩, ?_⟩
      have h7 := most_at hx
      (simp (maxSteps := 10000000) (implicitDefEqProofs := false) only [go_sem, Nat.reduceEqDiff, Nat.reduceBEq, ↓reduceIte, Nat.reduceAdd, Nat.reduceMul, Nat.reduceSub, Nat.reduceLeDiff, Nat.reduceLT, reduceCtorEq, Int.reduceLE, Int.reduceLT, Int.reduceToNat, Int.reduceBEq, hl]); (try simp (maxSteps := 10000000) (implicitDefEqProofs := false) (disch := omega) only [wrap_id, wrap8, max_r, max_l, min_r, min_l]); (try simp (maxSteps := 10000000) (implicitDefEqProofs := false) only [go_sem, Nat.reduceEqDiff, Nat.reduceBEq, ↓reduceIte, Nat.reduceAdd, Nat.reduceMul, Nat.reduceSub, Nat.reduceLeDiff, Nat.reduceLT, reduceCtorEq, Int.reduceLE, Int.reduceLT, Int.reduceToNat, Int.reduceBEq, hl])
      (simp only [SV.a.injEq, AV.c.injEq, C.d.injEq, D.v.injEq, Value.int.injEq, true_and, and_true, DR.one.injEq, DV.c.injEq, OutO.ret.injEq]; first | done | omega | (split <;> omega) | (simp; done) | (simp; omega))
    · have hb : decide ((k : Int) < (t.kids.length : Int)) = false := by simpa using hlt
      obtain rfl : k = t.kids.length := by omega
      rw [List.take_length] at h6
      (repeat' (first | with_reducible refine sound_seq_k fun Kn hK => ?_ | with_reducible refine sound_region (by kernel_rfl) ?_ | with_reducible refine sound_drawn (by kernel_rfl) (by kernel_rfl) ?_ | with_reducible refine sound_block ?_ | with_reducible refine sound_if ?_ | with_reducible refine sound_ret ?_ | with_reducible refine sound_skip ?_ | with_reducible refine sound_exit ?_ | (with_reducible refine hK _ ?_; clear hK; clear Kn) | (clear hK; clear Kn; with_reducible refine hK _ ?_; clear hK; clear Kn) | (clear hK; clear Kn; clear hK; clear Kn; with_reducible refine hK _ ?_; clear hK; clear Kn) | fail | with_reducible refine ex_bytes ?_ | with_reducible refine loopU_step ?_ | with_reducible refine retO_ret ?_ ?_ | with_reducible refine retO_normal ?_ ?_ | with_reducible refine And.intro (show logOk _ _ = true by kernel_rfl) ?_ | simp (maxSteps := 10000000) (implicitDefEqProofs := false) (disch := omega) only [wrap_id, wrap8, max_r, max_l, min_r, min_l] | (with_reducible refine br_intro (fun hb => ?_) (fun hb => ?_) <;> (try simp only [hb])) | (with_reducible refine And.intro (by first | omega | (simp; done) | (simp; omega)) ?_) | simp (maxSteps := 10000000) (implicitDefEqProofs := false) only [go_sem, Nat.reduceEqDiff, Nat.reduceBEq, ↓reduceIte, Nat.reduceAdd, Nat.reduceMul, Nat.reduceSub, Nat.reduceLeDiff, Nat.reduceLT, reduceCtorEq, Int.reduceLE, Int.reduceLT, Int.reduceToNat, Int.reduceBEq, hb, List.take_length] | fail))
      rw [t.deep_eq, hl]
      rfl
def Tree.great (t : Tree) (k : Nat) : Bool :=
  decide ((60 : Int) < k) || decide ((700 : Int) < t.kids.length) || decide ((5000 : Int) < t.hint.length) || decide ((5000 : Int) < t.data.length) || t.kids.attach.any (fun x => Tree.great x.1 (k + 1)) || (((k : Int) == 0) && decide ((2000 : Int) < t.nodes))
termination_by SizeOf.sizeOf t
decreasing_by exact Tree.kid_lt x.2
theorem Tree.great_eq (t : Tree) (k : Nat) : t.great k = (decide ((60 : Int) < k) || decide ((700 : Int) < t.kids.length) || decide ((5000 : Int) < t.hint.length) || decide ((5000 : Int) < t.data.length) || t.kids.any (fun x => Tree.great x (k + 1)) || (((k : Int) == 0) && decide ((2000 : Int) < t.nodes))) := by
  rw [Tree.great]
  congr 2
  simp
theorem great_m {G : Nat → Option (List D)} : ∀ t : Tree, ∀ (cs : List D) (k : Nat), treeC t = cs → t.wt ≤ 1000000000 → k ≤ 61 → Spec Tryd.prog G 9 [.g cs, .c (.v (.int .i64 k))] (.one (.c (.v (.bool (t.great k))))) := Tree.ind fun t ih cs d hcs hw hd => by
  subst hcs
  refine spec_of Tryd.func9 rfl rfl rfl (by kernel_rfl) rfl fun K => ?_
  rw [treeC_eq]
  refine sound_seq_k fun Kn hK => ?_
  refine sound_region (by kernel_rfl) ?_
  (simp (maxSteps := 10000000) (implicitDefEqProofs := false) only [go_sem, Nat.reduceEqDiff, Nat.reduceBEq, ↓reduceIte, Nat.reduceAdd, Nat.reduceMul, Nat.reduceSub, Nat.reduceLeDiff, Nat.reduceLT, reduceCtorEq, Int.reduceLE, Int.reduceLT, Int.reduceToNat, Int.reduceBEq, true_and]); (try simp (maxSteps := 10000000) (implicitDefEqProofs := false) (disch := omega) only [wrap_id, wrap8, max_r, max_l, min_r, min_l]); (try simp (maxSteps := 10000000) (implicitDefEqProofs := false) only [go_sem, Nat.reduceEqDiff, Nat.reduceBEq, ↓reduceIte, Nat.reduceAdd, Nat.reduceMul, Nat.reduceSub, Nat.reduceLeDiff, Nat.reduceLT, reduceCtorEq, Int.reduceLE, Int.reduceLT, Int.reduceToNat, Int.reduceBEq, true_and])
  refine hK _ ?_; clear hK; clear Kn
  refine sound_seq_k fun Kn hK => ?_
  have hL : (decide ((60 : Int) < d) || decide ((700 : Int) < t.kids.length) || decide ((5000 : Int) < t.hint.length) || decide ((5000 : Int) < t.data.length)) = false → ∀ s, LessL (renK []) ⟨[(1, vI d), (2, vP 2 0)], [(2, some ⟨25, treeK t, true, false⟩)]⟩ (Fr0 Tryd.f9.ntmps) s → Kn s := by
    intro hf s hl
    refine hK _ (sound_lessR _ _ hl ?_)
    clear hK hl
    (repeat' (first | with_reducible refine sound_seq_k fun Kn hK => ?_ | with_reducible refine sound_region (by kernel_rfl) ?_ | with_reducible refine sound_drawn (by kernel_rfl) (by kernel_rfl) ?_ | with_reducible refine sound_block ?_ | with_reducible refine sound_if ?_ | with_reducible refine sound_ret ?_ | with_reducible refine sound_skip ?_ | with_reducible refine sound_exit ?_ | (with_reducible refine hK _ ?_; clear hK; clear Kn) | (clear hK; clear Kn; with_reducible refine hK _ ?_; clear hK; clear Kn) | (clear hK; clear Kn; clear hK; clear Kn; with_reducible refine hK _ ?_; clear hK; clear Kn) | fail | with_reducible refine ex_bytes ?_ | with_reducible refine loopU_step ?_ | with_reducible refine retO_ret ?_ ?_ | with_reducible refine retO_normal ?_ ?_ | with_reducible refine And.intro (show logOk _ _ = true by kernel_rfl) ?_ | simp (maxSteps := 10000000) (implicitDefEqProofs := false) (disch := omega) only [wrap_id, wrap8, max_r, max_l, min_r, min_l] | (with_reducible refine br_intro (fun hb => ?_) (fun hb => ?_) <;> (try simp only [hb])) | (with_reducible refine And.intro (by first | omega | (simp; done) | (simp; omega)) ?_) | simp (maxSteps := 10000000) (implicitDefEqProofs := false) only [go_sem, Nat.reduceEqDiff, Nat.reduceBEq, ↓reduceIte, Nat.reduceAdd, Nat.reduceMul, Nat.reduceSub, Nat.reduceLeDiff, Nat.reduceLT, reduceCtorEq, Int.reduceLE, Int.reduceLT, Int.reduceToNat, Int.reduceBEq, true_and] | fail))
    refine sound_loopR (fun x : {k : Nat // k ≤ t.kids.length ∧ (t.kids.take k).any (fun x => x.great (d + 1)) = false} => ⟨[(1, vI d), (2, vP 2 0), (28, vI t.kids.length), (29, vI x.1)], [(2, some ⟨25, treeK t, true, false⟩)]⟩) (fun x => t.kids.length - x.1) ⟨0, by simp⟩ [] (by simp (maxSteps := 10000000) (implicitDefEqProofs := false) only [go_sem, Nat.reduceEqDiff, Nat.reduceBEq, ↓reduceIte, Nat.reduceAdd, Nat.reduceMul, Nat.reduceSub, Nat.reduceLeDiff, Nat.reduceLT, reduceCtorEq, Int.reduceLE, Int.reduceLT, Int.reduceToNat, Int.reduceBEq]; simp) (fun ⟨k, hk, hall⟩ => ?_)
    have h5 := t.wt_kids
    have h6 : d ≤ 60 := by
      simp only [Bool.or_eq_false_iff, decide_eq_false_iff_not] at hf
      omega
    by_cases hlt : k < t.kids.length
    · obtain ⟨x, hx⟩ : ∃ x, t.kids[k]? = some x := ⟨_, List.getElem?_eq_getElem hlt⟩
      have hb : decide ((k : Int) < (t.kids.length : Int)) = true := by simpa using hlt
      have hm := List.mem_of_getElem? hx
      (repeat' (first | with_reducible refine sound_seq_k fun Kn hK => ?_ | with_reducible refine sound_region (by kernel_rfl) ?_ | with_reducible refine sound_drawn (by kernel_rfl) (by kernel_rfl) ?_ | with_reducible refine sound_block ?_ | with_reducible refine sound_if ?_ | with_reducible refine sound_ret ?_ | with_reducible refine sound_skip ?_ | with_reducible refine sound_exit ?_ | (with_reducible refine hK _ ?_; clear hK; clear Kn) | (clear hK; clear Kn; with_reducible refine hK _ ?_; clear hK; clear Kn) | (clear hK; clear Kn; clear hK; clear Kn; with_reducible refine hK _ ?_; clear hK; clear Kn) | (refine ⟨_, ih x hm _ (d + 1) rfl (by have := Tree.wt_kid hm; omega) (by omega), ?_⟩) | with_reducible refine ex_bytes ?_ | with_reducible refine loopU_step ?_ | with_reducible refine retO_ret ?_ ?_ | with_reducible refine retO_normal ?_ ?_ | with_reducible refine And.intro (show logOk _ _ = true by kernel_rfl) ?_ | simp (maxSteps := 10000000) (implicitDefEqProofs := false) (disch := omega) only [wrap_id, wrap8, max_r, max_l, min_r, min_l] | (with_reducible refine br_intro (fun hb => ?_) (fun hb => ?_) <;> (try simp only [hb])) | (with_reducible refine And.intro (by first | omega | (simp; done) | (simp; omega)) ?_) | simp (maxSteps := 10000000) (implicitDefEqProofs := false) only [go_sem, Nat.reduceEqDiff, Nat.reduceBEq, ↓reduceIte, Nat.reduceAdd, Nat.reduceMul, Nat.reduceSub, Nat.reduceLeDiff, Nat.reduceLT, reduceCtorEq, Int.reduceLE, Int.reduceLT, Int.reduceToNat, Int.reduceBEq, hb, flat_at treeC_len hx] | fail))
      · rw [t.great_eq]
        have : t.kids.any (fun x => x.great (d + 1)) = true := List.any_eq_true.2 ⟨x, hm, by simp_all⟩
        rw [this]
        simp
      · refine ⟨[], ⟨k + 1, hlt, ?_⟩, ?_⟩
        · rw [List.take_add_one, hx]
          simp_all
        · (simp (maxSteps := 10000000) (implicitDefEqProofs := false) only [go_sem, Nat.reduceEqDiff, Nat.reduceBEq, ↓reduceIte, Nat.reduceAdd, Nat.reduceMul, Nat.reduceSub, Nat.reduceLeDiff, Nat.reduceLT, reduceCtorEq, Int.reduceLE, Int.reduceLT, Int.reduceToNat, Int.reduceBEq, true_and]); (try simp (maxSteps := 10000000) (implicitDefEqProofs := false) (disch := omega) only [wrap_id, wrap8, max_r, max_l, min_r, min_l]); (try simp (maxSteps := 10000000) (implicitDefEqProofs := false) only [go_sem, Nat.reduceEqDiff, Nat.reduceBEq, ↓reduceIte, Nat.reduceAdd, Nat.reduceMul, Nat.reduceSub, Nat.reduceLeDiff, Nat.reduceLT, reduceCtorEq, Int.reduceLE, Int.reduceLT, Int.reduceToNat, Int.reduceBEq, true_and])
          (simp only [SV.a.injEq, AV.c.injEq, C.d.injEq, D.v.injEq, Value.int.injEq, true_and, and_true, DR.one.injEq, DV.c.injEq, OutO.ret.injEq]; first | done | omega | (split <;> omega) | (simp; done) | (simp; omega))
    · have hb : decide ((k : Int) < (t.kids.length : Int)) = false := by simpa using hlt
      obtain rfl : k = t.kids.length := by omega
      (repeat' (first | with_reducible refine sound_seq_k fun Kn hK => ?_ | with_reducible refine sound_region (by kernel_rfl) ?_ | with_reducible refine sound_drawn (by kernel_rfl) (by kernel_rfl) ?_ | with_reducible refine sound_block ?_ | with_reducible refine sound_if ?_ | with_reducible refine sound_ret ?_ | with_reducible refine sound_skip ?_ | with_reducible refine sound_exit ?_ | (with_reducible refine hK _ ?_; clear hK; clear Kn) | (clear hK; clear Kn; with_reducible refine hK _ ?_; clear hK; clear Kn) | (clear hK; clear Kn; clear hK; clear Kn; with_reducible refine hK _ ?_; clear hK; clear Kn) | (refine ⟨_, nodes_m t _ (by first | rfl | (rw [treeC_eq]; first | rfl | (simp only [go_sem, *]; done))) hw, ?_⟩) | with_reducible refine ex_bytes ?_ | with_reducible refine loopU_step ?_ | with_reducible refine retO_ret ?_ ?_ | with_reducible refine retO_normal ?_ ?_ | with_reducible refine And.intro (show logOk _ _ = true by kernel_rfl) ?_ | simp (maxSteps := 10000000) (implicitDefEqProofs := false) (disch := omega) only [wrap_id, wrap8, max_r, max_l, min_r, min_l] | (with_reducible refine br_intro (fun hb => ?_) (fun hb => ?_) <;> (try simp only [hb])) | (with_reducible refine And.intro (by first | omega | (simp; done) | (simp; omega)) ?_) | simp (maxSteps := 10000000) (implicitDefEqProofs := false) only [go_sem, Nat.reduceEqDiff, Nat.reduceBEq, ↓reduceIte, Nat.reduceAdd, Nat.reduceMul, Nat.reduceSub, Nat.reduceLeDiff, Nat.reduceLT, reduceCtorEq, Int.reduceLE, Int.reduceLT, Int.reduceToNat, Int.reduceBEq, hb] | fail))
      all_goals
        rw [List.take_length] at hall
        rw [t.great_eq, hf, hall]
        simp only [hb]
        rfl
  clear hK
  (repeat' (first | with_reducible refine sound_seq_k fun Kn hK => ?_ | with_reducible refine sound_region (by kernel_rfl) ?_ | with_reducible refine sound_drawn (by kernel_rfl) (by kernel_rfl) ?_ | with_reducible refine sound_block ?_ | with_reducible refine sound_if ?_ | with_reducible refine sound_ret ?_ | with_reducible refine sound_skip ?_ | with_reducible refine sound_exit ?_ | (with_reducible refine hK _ ?_; clear hK; clear Kn) | (clear hK; clear Kn; with_reducible refine hK _ ?_; clear hK; clear Kn) | (clear hK; clear Kn; clear hK; clear Kn; with_reducible refine hK _ ?_; clear hK; clear Kn) | (refine hL (by simp only [*]; rfl) _ ?_) | with_reducible refine ex_bytes ?_ | with_reducible refine loopU_step ?_ | with_reducible refine retO_ret ?_ ?_ | with_reducible refine retO_normal ?_ ?_ | with_reducible refine And.intro (show logOk _ _ = true by kernel_rfl) ?_ | simp (maxSteps := 10000000) (implicitDefEqProofs := false) (disch := omega) only [wrap_id, wrap8, max_r, max_l, min_r, min_l] | (with_reducible refine br_intro (fun hb => ?_) (fun hb => ?_) <;> (try simp only [hb])) | (with_reducible refine And.intro (by first | omega | (simp; done) | (simp; omega)) ?_) | simp (maxSteps := 10000000) (implicitDefEqProofs := false) only [go_sem, Nat.reduceEqDiff, Nat.reduceBEq, ↓reduceIte, Nat.reduceAdd, Nat.reduceMul, Nat.reduceSub, Nat.reduceLeDiff, Nat.reduceLT, reduceCtorEq, Int.reduceLE, Int.reduceLT, Int.reduceToNat, Int.reduceBEq, gt_iff_lt] | fail))
  all_goals (clear ih; first | (simp only [*]; done) | (rw [t.great_eq]; simp only [*]; rfl) | (rw [t.great_eq]; simp only [*]; simp; done))
end Go.Proofs.YtdakeodebgggfaaDoor

/- May a value be? -/
namespace Go.Proofs.YtdakeodebgggfaaDoor
open Go.RowKit
set_option linter.unusedVariables false
set_option linter.unusedSimpArgs false
set_option maxRecDepth 100000
set_option maxHeartbeats 2000000
theorem may_m {G : Nat → Option (List D)} (t : Tree) {cs : List D} (hcs : treeC t = cs) (hw : t.wt ≤ 10000000) : Spec Tryd.prog G 22 [.g cs] (.one (.c (.v (.bool t.may)))) := by
  subst hcs
  refine spec_of Tryd.func22 rfl rfl rfl (by kernel_rfl) rfl fun K => ?_
  rw [treeC_eq]
  have e1 : decide ((t.nodes : Int) ≤ 512) = decide (t.nodes ≤ 512) := by rw [decide_eq_decide]; omega
  have e2 : decide ((t.deep : Int) ≤ 16) = decide (t.deep ≤ 16) := by rw [decide_eq_decide]; omega
  have e3 : decide ((t.form.length : Int) ≤ 4096) = decide (t.form.length ≤ 4096) := by rw [decide_eq_decide]; omega
  (repeat' (first | with_reducible refine sound_seq_k fun Kn hK => ?_ | with_reducible refine sound_region (by kernel_rfl) ?_ | with_reducible refine sound_drawn (by kernel_rfl) (by kernel_rfl) ?_ | with_reducible refine sound_block ?_ | with_reducible refine sound_if ?_ | with_reducible refine sound_ret ?_ | with_reducible refine sound_skip ?_ | with_reducible refine sound_exit ?_ | (with_reducible refine hK _ ?_; clear hK; clear Kn) | (clear hK; clear Kn; with_reducible refine hK _ ?_; clear hK; clear Kn) | (clear hK; clear Kn; clear hK; clear Kn; with_reducible refine hK _ ?_; clear hK; clear Kn) | (refine ⟨_, clean_m t _ (by first | rfl | (rw [treeC_eq]; first | rfl | (simp only [go_sem, *]; done))) (by omega), ?_⟩) | (refine ⟨_, nodes_m t _ (by first | rfl | (rw [treeC_eq]; first | rfl | (simp only [go_sem, *]; done))) (by omega), ?_⟩) | (refine ⟨_, deep_m t _ (by first | rfl | (rw [treeC_eq]; first | rfl | (simp only [go_sem, *]; done))) (by omega), ?_⟩) | (refine ⟨_, form_m t _ (by first | rfl | (rw [treeC_eq]; first | rfl | (simp only [go_sem, *]; done))) (by omega), ?_⟩) | with_reducible refine ex_bytes ?_ | with_reducible refine loopU_step ?_ | with_reducible refine retO_ret ?_ ?_ | with_reducible refine retO_normal ?_ ?_ | with_reducible refine And.intro (show logOk _ _ = true by kernel_rfl) ?_ | simp (maxSteps := 10000000) (implicitDefEqProofs := false) (disch := omega) only [wrap_id, wrap8, max_r, max_l, min_r, min_l] | (with_reducible refine br_intro (fun hb => ?_) (fun hb => ?_) <;> (try simp only [hb])) | (with_reducible refine And.intro (by first | omega | (simp; done) | (simp; omega)) ?_) | simp (maxSteps := 10000000) (implicitDefEqProofs := false) only [go_sem, Nat.reduceEqDiff, Nat.reduceBEq, ↓reduceIte, Nat.reduceAdd, Nat.reduceMul, Nat.reduceSub, Nat.reduceLeDiff, Nat.reduceLT, reduceCtorEq, Int.reduceLE, Int.reduceLT, Int.reduceToNat, Int.reduceBEq, e1, e2, e3] | fail))
  all_goals (rw [Tree.may]; simp only [*]; rfl)
end Go.Proofs.YtdakeodebgggfaaDoor

/-
  DERIVED: THE SHELF's CONTRACTS AT THIS DUMP, IN PLAIN WORDS (tools/lay-plain.mjs out of 'TrydShelf.lean', which tools/lay-shelf.mjs wrote): THE SAME DECLARATIONS UNDER THE SAME NAMES: 'import', 'namespace', 'open', 'def', 'theorem' AND NOTHING ELSE: no command of the shelf's: FOR A HAND-IN. Each laying: the table of numbers ('.._ren') and one theorem, a field a fact of the dump's own or the kernel's comparison; each contract: ONE APPLICATION.
-/
namespace Go.Proofs
open Go.Shelf
def Tryd.lays129_ren : Go.Shelf.Ren := ⟨fun | 129 => 86 | n => n, fun | 53 => 82 | 3 => 3 | 4 => 4 | 46 => 89 | 5 => 5 | 9 => 9 | n => n, fun | n => n⟩
theorem Tryd.lays129 : Go.Proofs.Lays.n129 Tryd.prog Tryd.lays129_ren := {
  mixed := by kernel_rfl
  f129 := Tryd.func86.trans (congrArg some (by kernel_rfl))
  t3 := Tryd.underlying3
  a3 := Tryd.isAgg3
  z3 := Tryd.sizeOf3
  v3 := Tryd.zeroValue3
  t4 := Tryd.underlying4
  a4 := Tryd.isAgg4
  z4 := Tryd.sizeOf4
  v4 := Tryd.zeroValue4
  t5 := Tryd.underlying5
  a5 := Tryd.isAgg5
  z5 := Tryd.sizeOf5
  v5 := Tryd.zeroValue5
  t9 := Tryd.underlying9
  a9 := Tryd.isAgg9
  z9 := Tryd.sizeOf9
  v9 := Tryd.zeroValue9
  t46 := Tryd.underlying89
  a46 := Tryd.isAgg89
  z46 := Tryd.sizeOf89
  v46 := Tryd.zeroValue89
  t53 := Tryd.underlying82
  a53 := Tryd.isAgg82
  z53 := Tryd.sizeOf82
  v53 := Tryd.zeroValue82 }
/-- bits.Len64: "Len64 returns the minimum number of bits required to represent x; the result is 0 for x == 0.": IT RETURNS 'Lib.bitLen x'; the world is as it was. ('h0', 'h1': x is a uint64.) (LAID: no walk: one application.) -/
theorem Tryd.bits_Len64 (x : Int) (w : World) (h0 : 0 ≤ x) (h1 : x ≤ 18446744073709551615) :
    Calls Tryd.prog 86 #[.int .u64 x] w fun e w' => e = .returned (.int .i64 (Lib.bitLen x.toNat)) ∧ w' = w := Any.bits_Len64 Tryd.lays129 x w h0 h1
def Tryd.lays317_ren : Go.Shelf.Ren := ⟨fun | 317 => 85 | n => n, fun | 3 => 3 | 46 => 89 | n => n, fun | n => n⟩
theorem Tryd.lays317 : Go.Proofs.Lays.n317 Tryd.prog Tryd.lays317_ren := {
  mixed := by kernel_rfl
  f317 := Tryd.func85.trans (congrArg some (by kernel_rfl))
  t3 := Tryd.underlying3
  a3 := Tryd.isAgg3
  z3 := Tryd.sizeOf3
  v3 := Tryd.zeroValue3
  t46 := Tryd.underlying89
  a46 := Tryd.isAgg89
  z46 := Tryd.sizeOf89
  v46 := Tryd.zeroValue89 }
open Go.Lib in
/-- internal/strconv.log10Pow2: "log10Pow2(x) returns ⌊log₁₀ 2**x⌋ = ⌊x * log₁₀ 2⌋.": '(x * 78913) >> 18', at an x up to 64 (a length in bits). The world is as it was. (LAID: no walk: one application.) -/
theorem Tryd.internal_strconv_log10Pow2 (x : Nat) (h : x ≤ 64) (w : World) :
    Calls Tryd.prog 85 #[.int .i64 x] w fun e w' => e = .returned (.int .i64 (Lib.l10 x)) ∧ w' = w := Any.internal_strconv_log10Pow2 Tryd.lays317 x h w
def Tryd.lays318_ren : Go.Shelf.Ren := ⟨fun | 318 => 87 | n => n, fun | 3 => 3 | 4 => 4 | n => n, fun | n => n⟩
theorem Tryd.lays318 : Go.Proofs.Lays.n318 Tryd.prog Tryd.lays318_ren := {
  mixed := by kernel_rfl
  f318 := Tryd.func87.trans (congrArg some (by kernel_rfl))
  t3 := Tryd.underlying3
  a3 := Tryd.isAgg3
  z3 := Tryd.sizeOf3
  v3 := Tryd.zeroValue3
  t4 := Tryd.underlying4
  a4 := Tryd.isAgg4
  z4 := Tryd.sizeOf4
  v4 := Tryd.zeroValue4 }
open Go.Lib in
/-- internal/strconv.bool2: "bool2 converts b to an integer: 1 for true, 0 for false." The world is as it was. (LAID: no walk: one application.) -/
theorem Tryd.internal_strconv_bool2_int (b : Bool) (w : World) :
    Calls Tryd.prog 87 #[.bool b] w fun e w' => e = .returned (.int .i64 (if b then 1 else 0)) ∧ w' = w := Any.internal_strconv_bool2_int Tryd.lays318 b w
def Tryd.lays283_ren : Go.Shelf.Ren := ⟨fun | 283 => 81 | n => n, fun | 3 => 3 | 9 => 9 | 4 => 4 | n => n, fun | n => n⟩
theorem Tryd.lays283 : Go.Proofs.Lays.n283 Tryd.prog Tryd.lays283_ren := {
  mixed := by kernel_rfl
  f283 := Tryd.func81.trans (congrArg some (by kernel_rfl))
  t3 := Tryd.underlying3
  a3 := Tryd.isAgg3
  z3 := Tryd.sizeOf3
  v3 := Tryd.zeroValue3
  t4 := Tryd.underlying4
  a4 := Tryd.isAgg4
  z4 := Tryd.sizeOf4
  v4 := Tryd.zeroValue4
  t9 := Tryd.underlying9
  a9 := Tryd.isAgg9
  z9 := Tryd.sizeOf9
  v9 := Tryd.zeroValue9 }
open Go.Lib in
/-- internal/strconv.small: "small returns the string for an i with 0 <= i < nSmalls.": i's decimal numeral. The world is as it was. (LAID: no walk: one application.) -/
theorem Tryd.internal_strconv_small (i : Nat) (h : i < 100) (w : World) :
    Calls Tryd.prog 81 #[.int .i64 i] w fun e w' => e = .returned (.string ⟨(Lib.decDigits i).toArray⟩) ∧ w' = w := Any.internal_strconv_small Tryd.lays283 i h w
def Tryd.laysM284_ren : Go.Shelf.Ren := ⟨fun | 284 => 82 | 129 => 86 | 317 => 85 | 318 => 87 | n => n, fun | 53 => 82 | 3 => 3 | 212 => 111 | 0 => 0 | 4 => 4 | 46 => 89 | 5 => 5 | 9 => 9 | n => n, fun | 17 => 0 | n => n⟩
theorem Tryd.laysM284 : Go.Proofs.LaysM.n284 Tryd.prog Tryd.laysM284_ren := {
  mixed := by kernel_rfl
  f129 := Tryd.func86.trans (congrArg some (by kernel_rfl))
  f284 := Tryd.func82.trans (congrArg some (by kernel_rfl))
  f317 := Tryd.func85.trans (congrArg some (by kernel_rfl))
  f318 := Tryd.func87.trans (congrArg some (by kernel_rfl))
  t0 := Tryd.underlying0
  a0 := Tryd.isAgg0
  z0 := Tryd.sizeOf0
  v0 := Tryd.zeroValue0
  t3 := Tryd.underlying3
  a3 := Tryd.isAgg3
  z3 := Tryd.sizeOf3
  v3 := Tryd.zeroValue3
  t4 := Tryd.underlying4
  a4 := Tryd.isAgg4
  z4 := Tryd.sizeOf4
  v4 := Tryd.zeroValue4
  t5 := Tryd.underlying5
  a5 := Tryd.isAgg5
  z5 := Tryd.sizeOf5
  v5 := Tryd.zeroValue5
  t9 := Tryd.underlying9
  a9 := Tryd.isAgg9
  z9 := Tryd.sizeOf9
  v9 := Tryd.zeroValue9
  t46 := Tryd.underlying89
  a46 := Tryd.isAgg89
  z46 := Tryd.sizeOf89
  v46 := Tryd.zeroValue89
  t53 := Tryd.underlying82
  a53 := Tryd.isAgg82
  z53 := Tryd.sizeOf82
  v53 := Tryd.zeroValue82
  t212 := Tryd.underlying111
  a212 := Tryd.isAgg111
  z212 := Tryd.sizeOf111
  v212 := Tryd.zeroValue111
  g17 := by kernel_rfl
  i0 := by kernel_rfl
  i3 := by kernel_rfl
  i4 := by kernel_rfl
  i5 := by kernel_rfl
  i9 := by kernel_rfl
  i46 := by kernel_rfl
  i53 := by kernel_rfl
  i212 := by kernel_rfl
  m17 := by kernel_rfl }
open Go.Lib in
/-- internal/strconv.numDigits, at a d that is not 0: THE NUMBER OF d's DECIMAL DIGITS. The world is as it was. (LAID: no walk: one application.) -/
theorem Tryd.internal_strconv_numDigits (u : Nat) (h1 : 1 ≤ u) (h2 : u < 18446744073709551616) (w : World) (htab : Lib.TabIs Tryd.prog w "internal/strconv.uint64pow10" .u64 Lib.pow10Tab) :
    Calls Tryd.prog 82 #[.int .u64 u] w fun e w' => e = .returned (.int .i64 (Lib.nDigits u)) ∧ w' = w := Any.internal_strconv_numDigits Tryd.laysM284 u h1 h2 w htab
def Tryd.lays285_ren : Go.Shelf.Ren := ⟨fun | 285 => 83 | n => n, fun | 37 => 22 | 53 => 82 | 3 => 3 | 4 => 4 | 51 => 112 | 9 => 9 | 5 => 5 | 0 => 0 | n => n, fun | n => n⟩
theorem Tryd.lays285 : Go.Proofs.Lays.n285 Tryd.prog Tryd.lays285_ren := {
  mixed := by kernel_rfl
  f285 := Tryd.func83.trans (congrArg some (by kernel_rfl))
  t0 := Tryd.underlying0
  a0 := Tryd.isAgg0
  z0 := Tryd.sizeOf0
  v0 := Tryd.zeroValue0
  t3 := Tryd.underlying3
  a3 := Tryd.isAgg3
  z3 := Tryd.sizeOf3
  v3 := Tryd.zeroValue3
  t4 := Tryd.underlying4
  a4 := Tryd.isAgg4
  z4 := Tryd.sizeOf4
  v4 := Tryd.zeroValue4
  t5 := Tryd.underlying5
  a5 := Tryd.isAgg5
  z5 := Tryd.sizeOf5
  v5 := Tryd.zeroValue5
  t9 := Tryd.underlying9
  a9 := Tryd.isAgg9
  z9 := Tryd.sizeOf9
  v9 := Tryd.zeroValue9
  t37 := Tryd.underlying22
  a37 := Tryd.isAgg22
  z37 := Tryd.sizeOf22
  v37 := Tryd.zeroValue22
  t51 := Tryd.underlying112
  a51 := Tryd.isAgg112
  z51 := Tryd.sizeOf112
  v51 := Tryd.zeroValue112
  t53 := Tryd.underlying82
  a53 := Tryd.isAgg82
  z53 := Tryd.sizeOf82
  v53 := Tryd.zeroValue82 }
open Go.RowKit Go.Sort Go.Lib in
/-- internal/strconv.formatBase10: "formatBase10 formats the decimal representation of u into a. The caller is responsible for ensuring that a is big enough to hold u. If a is too big, leading zeros will be filled in as needed.": THE ROW HOLDS u's DIGITS ('FmtInv .. 0 ..': every place t holds 'dg u (len - 1 - t)'); all else is as it was but for the count of draws. (LAID: no walk: one application.) -/
theorem Tryd.internal_strconv_formatBase10 (blk off cap : Nat) (u : Nat) (d : Array UInt8) (w : World) (hH : Holds (fun (b : UInt8) => Value.int .u8 (b.toNat : Int)) w blk off d) (hu : u < 10 ^ d.size) (hu64 : u < 18446744073709551616) (hsz : d.size < 4611686018427387904) :
    Calls Tryd.prog 83 #[.slice (some ⟨blk, off, none⟩) d.size cap, .int .u64 u] w fun e w' =>
      e = .returned (.tuple #[]) ∧ ∃ (n v' : Nat) (dk : Array UInt8), w' = (putRow (fun (b : UInt8) => Value.int .u8 (b.toNat : Int)) w blk off dk).drewN n ∧ FmtInv d.size u 0 v' dk := Any.internal_strconv_formatBase10 Tryd.lays285 blk off cap u d w hH hu hu64 hsz
def Tryd.laysM246_ren : Go.Shelf.Ren := ⟨fun | 246 => 78 | 283 => 81 | 284 => 82 | 285 => 83 | 286 => 84 | 129 => 86 | 317 => 85 | 318 => 87 | 319 => 88 | 320 => 89 | 337 => 90 | 338 => 91 | n => n, fun | 2 => 2 | 3 => 3 | 9 => 9 | 4 => 4 | 171 => 104 | 0 => 0 | 53 => 82 | 37 => 22 | 5 => 5 | 173 => 107 | 212 => 111 | 51 => 112 | 20 => 20 | 213 => 113 | 46 => 89 | 232 => 117 | 233 => 52 | n => n, fun | 17 => 0 | 18 => 1 | 19 => 2 | n => n⟩
theorem Tryd.laysM246 : Go.Proofs.LaysM.n246 Tryd.prog Tryd.laysM246_ren := {
  mixed := by kernel_rfl
  f129 := Tryd.func86.trans (congrArg some (by kernel_rfl))
  f246 := Tryd.func78.trans (congrArg some (by kernel_rfl))
  f283 := Tryd.func81.trans (congrArg some (by kernel_rfl))
  f284 := Tryd.func82.trans (congrArg some (by kernel_rfl))
  f285 := Tryd.func83.trans (congrArg some (by kernel_rfl))
  f286 := Tryd.func84.trans (congrArg some (by kernel_rfl))
  f317 := Tryd.func85.trans (congrArg some (by kernel_rfl))
  f318 := Tryd.func87.trans (congrArg some (by kernel_rfl))
  f319 := Tryd.func88.trans (congrArg some (by kernel_rfl))
  f320 := Tryd.func89.trans (congrArg some (by kernel_rfl))
  f337 := Tryd.func90.trans (congrArg some (by kernel_rfl))
  f338 := Tryd.func91.trans (congrArg some (by kernel_rfl))
  t0 := Tryd.underlying0
  a0 := Tryd.isAgg0
  z0 := Tryd.sizeOf0
  v0 := Tryd.zeroValue0
  t2 := Tryd.underlying2
  a2 := Tryd.isAgg2
  z2 := Tryd.sizeOf2
  v2 := Tryd.zeroValue2
  t3 := Tryd.underlying3
  a3 := Tryd.isAgg3
  z3 := Tryd.sizeOf3
  v3 := Tryd.zeroValue3
  t4 := Tryd.underlying4
  a4 := Tryd.isAgg4
  z4 := Tryd.sizeOf4
  v4 := Tryd.zeroValue4
  t5 := Tryd.underlying5
  a5 := Tryd.isAgg5
  z5 := Tryd.sizeOf5
  v5 := Tryd.zeroValue5
  t9 := Tryd.underlying9
  a9 := Tryd.isAgg9
  z9 := Tryd.sizeOf9
  v9 := Tryd.zeroValue9
  t20 := Tryd.underlying20
  a20 := Tryd.isAgg20
  z20 := Tryd.sizeOf20
  v20 := Tryd.zeroValue20
  t37 := Tryd.underlying22
  a37 := Tryd.isAgg22
  z37 := Tryd.sizeOf22
  v37 := Tryd.zeroValue22
  t46 := Tryd.underlying89
  a46 := Tryd.isAgg89
  z46 := Tryd.sizeOf89
  v46 := Tryd.zeroValue89
  t51 := Tryd.underlying112
  a51 := Tryd.isAgg112
  z51 := Tryd.sizeOf112
  v51 := Tryd.zeroValue112
  t53 := Tryd.underlying82
  a53 := Tryd.isAgg82
  z53 := Tryd.sizeOf82
  v53 := Tryd.zeroValue82
  t171 := Tryd.underlying104
  a171 := Tryd.isAgg104
  z171 := Tryd.sizeOf104
  v171 := Tryd.zeroValue104
  t173 := Tryd.underlying107
  a173 := Tryd.isAgg107
  z173 := Tryd.sizeOf107
  v173 := Tryd.zeroValue107
  t212 := Tryd.underlying111
  a212 := Tryd.isAgg111
  z212 := Tryd.sizeOf111
  v212 := Tryd.zeroValue111
  t213 := Tryd.underlying113
  a213 := Tryd.isAgg113
  z213 := Tryd.sizeOf113
  t232 := Tryd.underlying117
  a232 := Tryd.isAgg117
  z232 := Tryd.sizeOf117
  v232 := Tryd.zeroValue117
  t233 := Tryd.underlying52
  a233 := Tryd.isAgg52
  z233 := Tryd.sizeOf52
  v233 := Tryd.zeroValue52
  g17 := by kernel_rfl
  g18 := by kernel_rfl
  g19 := by kernel_rfl
  i0 := by kernel_rfl
  i2 := by kernel_rfl
  i3 := by kernel_rfl
  i4 := by kernel_rfl
  i5 := by kernel_rfl
  i9 := by kernel_rfl
  i20 := by kernel_rfl
  i37 := by kernel_rfl
  i46 := by kernel_rfl
  i51 := by kernel_rfl
  i53 := by kernel_rfl
  i171 := by kernel_rfl
  i173 := by kernel_rfl
  i212 := by kernel_rfl
  i232 := by kernel_rfl
  i233 := by kernel_rfl
  m17 := by kernel_rfl
  m18 := by kernel_rfl
  m19 := by kernel_rfl }
open Go.RowKit Go.Sort Go.Lib in
/-- internal/strconv.FormatInt: "FormatInt returns the string representation of i in the given base": AT BASE 10: i's decimal numeral, for every int64. The world behind the call: the world before it, new blocks behind the heap, draws. (LAID: no walk: one application.) -/
theorem Tryd.internal_strconv_FormatInt_10 (n : Int) (h0 : -9223372036854775808 ≤ n) (h1 : n ≤ 9223372036854775807) (w : World) (htab : Lib.TabIs Tryd.prog w "internal/strconv.uint64pow10" .u64 Lib.pow10Tab) :
    Calls Tryd.prog 78 #[.int .i64 n, .int .i64 10] w fun e w' => e = .returned (.string ⟨(Lib.itoa n).toArray⟩) ∧ ∃ k os, w' = grow (w.drewN k) os := Any.internal_strconv_FormatInt_10 Tryd.laysM246 n h0 h1 w htab
def Tryd.lays246_ren : Go.Shelf.Ren := ⟨fun | 246 => 78 | 283 => 81 | 284 => 82 | 285 => 83 | 286 => 84 | 129 => 86 | 317 => 85 | 318 => 87 | 319 => 88 | 320 => 89 | 337 => 90 | 338 => 91 | n => n, fun | 2 => 2 | 3 => 3 | 9 => 9 | 4 => 4 | 171 => 104 | 0 => 0 | 53 => 82 | 37 => 22 | 5 => 5 | 173 => 107 | 212 => 111 | 51 => 112 | 20 => 20 | 213 => 113 | 46 => 89 | 232 => 117 | 233 => 52 | n => n, fun | 17 => 0 | 18 => 1 | 19 => 2 | n => n⟩
theorem Tryd.lays246 : Go.Proofs.Lays.n246 Tryd.prog Tryd.lays246_ren := {
  mixed := by kernel_rfl
  f129 := Tryd.func86.trans (congrArg some (by kernel_rfl))
  f246 := Tryd.func78.trans (congrArg some (by kernel_rfl))
  f283 := Tryd.func81.trans (congrArg some (by kernel_rfl))
  f284 := Tryd.func82.trans (congrArg some (by kernel_rfl))
  f285 := Tryd.func83.trans (congrArg some (by kernel_rfl))
  f286 := Tryd.func84.trans (congrArg some (by kernel_rfl))
  f317 := Tryd.func85.trans (congrArg some (by kernel_rfl))
  f318 := Tryd.func87.trans (congrArg some (by kernel_rfl))
  f319 := Tryd.func88.trans (congrArg some (by kernel_rfl))
  f320 := Tryd.func89.trans (congrArg some (by kernel_rfl))
  f337 := Tryd.func90.trans (congrArg some (by kernel_rfl))
  f338 := Tryd.func91.trans (congrArg some (by kernel_rfl))
  t0 := Tryd.underlying0
  a0 := Tryd.isAgg0
  z0 := Tryd.sizeOf0
  v0 := Tryd.zeroValue0
  t2 := Tryd.underlying2
  a2 := Tryd.isAgg2
  z2 := Tryd.sizeOf2
  v2 := Tryd.zeroValue2
  t3 := Tryd.underlying3
  a3 := Tryd.isAgg3
  z3 := Tryd.sizeOf3
  v3 := Tryd.zeroValue3
  t4 := Tryd.underlying4
  a4 := Tryd.isAgg4
  z4 := Tryd.sizeOf4
  v4 := Tryd.zeroValue4
  t5 := Tryd.underlying5
  a5 := Tryd.isAgg5
  z5 := Tryd.sizeOf5
  v5 := Tryd.zeroValue5
  t9 := Tryd.underlying9
  a9 := Tryd.isAgg9
  z9 := Tryd.sizeOf9
  v9 := Tryd.zeroValue9
  t20 := Tryd.underlying20
  a20 := Tryd.isAgg20
  z20 := Tryd.sizeOf20
  v20 := Tryd.zeroValue20
  t37 := Tryd.underlying22
  a37 := Tryd.isAgg22
  z37 := Tryd.sizeOf22
  v37 := Tryd.zeroValue22
  t46 := Tryd.underlying89
  a46 := Tryd.isAgg89
  z46 := Tryd.sizeOf89
  v46 := Tryd.zeroValue89
  t51 := Tryd.underlying112
  a51 := Tryd.isAgg112
  z51 := Tryd.sizeOf112
  v51 := Tryd.zeroValue112
  t53 := Tryd.underlying82
  a53 := Tryd.isAgg82
  z53 := Tryd.sizeOf82
  v53 := Tryd.zeroValue82
  t171 := Tryd.underlying104
  a171 := Tryd.isAgg104
  z171 := Tryd.sizeOf104
  v171 := Tryd.zeroValue104
  t173 := Tryd.underlying107
  a173 := Tryd.isAgg107
  z173 := Tryd.sizeOf107
  v173 := Tryd.zeroValue107
  t212 := Tryd.underlying111
  a212 := Tryd.isAgg111
  z212 := Tryd.sizeOf111
  v212 := Tryd.zeroValue111
  t213 := Tryd.underlying113
  a213 := Tryd.isAgg113
  z213 := Tryd.sizeOf113
  t232 := Tryd.underlying117
  a232 := Tryd.isAgg117
  z232 := Tryd.sizeOf117
  v232 := Tryd.zeroValue117
  t233 := Tryd.underlying52
  a233 := Tryd.isAgg52
  z233 := Tryd.sizeOf52
  v233 := Tryd.zeroValue52
  g17 := by kernel_rfl
  g18 := by kernel_rfl
  g19 := by kernel_rfl }
open Go.RowKit Go.Sort Go.Lib in
/-- THE ROAD WITHOUT THE TABLE: 0 <= i < 100: two constants are read, nothing is laid: no premise on the world, and the world is as it was. (LAID: no walk: one application.) -/
theorem Tryd.internal_strconv_FormatInt_10_small (i : Nat) (hi : i < 100) (w : World) :
    Calls Tryd.prog 78 #[.int .i64 i, .int .i64 10] w fun e w' => e = .returned (.string ⟨(Lib.decDigits i).toArray⟩) ∧ w' = w := Any.internal_strconv_FormatInt_10_small Tryd.lays246 i hi w
def Tryd.laysM243_ren : Go.Shelf.Ren := ⟨fun | 243 => 74 | 246 => 78 | 283 => 81 | 284 => 82 | 285 => 83 | 286 => 84 | 129 => 86 | 317 => 85 | 318 => 87 | 319 => 88 | 320 => 89 | 337 => 90 | 338 => 91 | n => n, fun | 3 => 3 | 9 => 9 | 2 => 2 | 4 => 4 | 171 => 104 | 0 => 0 | 53 => 82 | 37 => 22 | 5 => 5 | 173 => 107 | 212 => 111 | 51 => 112 | 20 => 20 | 213 => 113 | 46 => 89 | 232 => 117 | 233 => 52 | n => n, fun | 17 => 0 | 18 => 1 | 19 => 2 | n => n⟩
theorem Tryd.laysM243 : Go.Proofs.LaysM.n243 Tryd.prog Tryd.laysM243_ren := {
  mixed := by kernel_rfl
  f129 := Tryd.func86.trans (congrArg some (by kernel_rfl))
  f243 := Tryd.func74.trans (congrArg some (by kernel_rfl))
  f246 := Tryd.func78.trans (congrArg some (by kernel_rfl))
  f283 := Tryd.func81.trans (congrArg some (by kernel_rfl))
  f284 := Tryd.func82.trans (congrArg some (by kernel_rfl))
  f285 := Tryd.func83.trans (congrArg some (by kernel_rfl))
  f286 := Tryd.func84.trans (congrArg some (by kernel_rfl))
  f317 := Tryd.func85.trans (congrArg some (by kernel_rfl))
  f318 := Tryd.func87.trans (congrArg some (by kernel_rfl))
  f319 := Tryd.func88.trans (congrArg some (by kernel_rfl))
  f320 := Tryd.func89.trans (congrArg some (by kernel_rfl))
  f337 := Tryd.func90.trans (congrArg some (by kernel_rfl))
  f338 := Tryd.func91.trans (congrArg some (by kernel_rfl))
  t0 := Tryd.underlying0
  a0 := Tryd.isAgg0
  z0 := Tryd.sizeOf0
  v0 := Tryd.zeroValue0
  t2 := Tryd.underlying2
  a2 := Tryd.isAgg2
  z2 := Tryd.sizeOf2
  v2 := Tryd.zeroValue2
  t3 := Tryd.underlying3
  a3 := Tryd.isAgg3
  z3 := Tryd.sizeOf3
  v3 := Tryd.zeroValue3
  t4 := Tryd.underlying4
  a4 := Tryd.isAgg4
  z4 := Tryd.sizeOf4
  v4 := Tryd.zeroValue4
  t5 := Tryd.underlying5
  a5 := Tryd.isAgg5
  z5 := Tryd.sizeOf5
  v5 := Tryd.zeroValue5
  t9 := Tryd.underlying9
  a9 := Tryd.isAgg9
  z9 := Tryd.sizeOf9
  v9 := Tryd.zeroValue9
  t20 := Tryd.underlying20
  a20 := Tryd.isAgg20
  z20 := Tryd.sizeOf20
  v20 := Tryd.zeroValue20
  t37 := Tryd.underlying22
  a37 := Tryd.isAgg22
  z37 := Tryd.sizeOf22
  v37 := Tryd.zeroValue22
  t46 := Tryd.underlying89
  a46 := Tryd.isAgg89
  z46 := Tryd.sizeOf89
  v46 := Tryd.zeroValue89
  t51 := Tryd.underlying112
  a51 := Tryd.isAgg112
  z51 := Tryd.sizeOf112
  v51 := Tryd.zeroValue112
  t53 := Tryd.underlying82
  a53 := Tryd.isAgg82
  z53 := Tryd.sizeOf82
  v53 := Tryd.zeroValue82
  t171 := Tryd.underlying104
  a171 := Tryd.isAgg104
  z171 := Tryd.sizeOf104
  v171 := Tryd.zeroValue104
  t173 := Tryd.underlying107
  a173 := Tryd.isAgg107
  z173 := Tryd.sizeOf107
  v173 := Tryd.zeroValue107
  t212 := Tryd.underlying111
  a212 := Tryd.isAgg111
  z212 := Tryd.sizeOf111
  v212 := Tryd.zeroValue111
  t213 := Tryd.underlying113
  a213 := Tryd.isAgg113
  z213 := Tryd.sizeOf113
  t232 := Tryd.underlying117
  a232 := Tryd.isAgg117
  z232 := Tryd.sizeOf117
  v232 := Tryd.zeroValue117
  t233 := Tryd.underlying52
  a233 := Tryd.isAgg52
  z233 := Tryd.sizeOf52
  v233 := Tryd.zeroValue52
  g17 := by kernel_rfl
  g18 := by kernel_rfl
  g19 := by kernel_rfl
  i0 := by kernel_rfl
  i2 := by kernel_rfl
  i3 := by kernel_rfl
  i4 := by kernel_rfl
  i5 := by kernel_rfl
  i9 := by kernel_rfl
  i20 := by kernel_rfl
  i37 := by kernel_rfl
  i46 := by kernel_rfl
  i51 := by kernel_rfl
  i53 := by kernel_rfl
  i171 := by kernel_rfl
  i173 := by kernel_rfl
  i212 := by kernel_rfl
  i232 := by kernel_rfl
  i233 := by kernel_rfl
  m17 := by kernel_rfl
  m18 := by kernel_rfl
  m19 := by kernel_rfl }
open Go.RowKit Go.Sort Go.Lib in
/-- internal/strconv.Itoa: "Itoa is equivalent to FormatInt(int64(i), 10).": i's decimal numeral, for every int. (LAID: no walk: one application.) -/
theorem Tryd.internal_strconv_Itoa (n : Int) (h0 : -9223372036854775808 ≤ n) (h1 : n ≤ 9223372036854775807) (w : World) (htab : Lib.TabIs Tryd.prog w "internal/strconv.uint64pow10" .u64 Lib.pow10Tab) :
    Calls Tryd.prog 74 #[.int .i64 n] w fun e w' => e = .returned (.string ⟨(Lib.itoa n).toArray⟩) ∧ ∃ k os, w' = grow (w.drewN k) os := Any.internal_strconv_Itoa Tryd.laysM243 n h0 h1 w htab
def Tryd.lays243_ren : Go.Shelf.Ren := ⟨fun | 243 => 74 | 246 => 78 | 283 => 81 | 284 => 82 | 285 => 83 | 286 => 84 | 129 => 86 | 317 => 85 | 318 => 87 | 319 => 88 | 320 => 89 | 337 => 90 | 338 => 91 | n => n, fun | 3 => 3 | 9 => 9 | 2 => 2 | 4 => 4 | 171 => 104 | 0 => 0 | 53 => 82 | 37 => 22 | 5 => 5 | 173 => 107 | 212 => 111 | 51 => 112 | 20 => 20 | 213 => 113 | 46 => 89 | 232 => 117 | 233 => 52 | n => n, fun | 17 => 0 | 18 => 1 | 19 => 2 | n => n⟩
theorem Tryd.lays243 : Go.Proofs.Lays.n243 Tryd.prog Tryd.lays243_ren := {
  mixed := by kernel_rfl
  f129 := Tryd.func86.trans (congrArg some (by kernel_rfl))
  f243 := Tryd.func74.trans (congrArg some (by kernel_rfl))
  f246 := Tryd.func78.trans (congrArg some (by kernel_rfl))
  f283 := Tryd.func81.trans (congrArg some (by kernel_rfl))
  f284 := Tryd.func82.trans (congrArg some (by kernel_rfl))
  f285 := Tryd.func83.trans (congrArg some (by kernel_rfl))
  f286 := Tryd.func84.trans (congrArg some (by kernel_rfl))
  f317 := Tryd.func85.trans (congrArg some (by kernel_rfl))
  f318 := Tryd.func87.trans (congrArg some (by kernel_rfl))
  f319 := Tryd.func88.trans (congrArg some (by kernel_rfl))
  f320 := Tryd.func89.trans (congrArg some (by kernel_rfl))
  f337 := Tryd.func90.trans (congrArg some (by kernel_rfl))
  f338 := Tryd.func91.trans (congrArg some (by kernel_rfl))
  t0 := Tryd.underlying0
  a0 := Tryd.isAgg0
  z0 := Tryd.sizeOf0
  v0 := Tryd.zeroValue0
  t2 := Tryd.underlying2
  a2 := Tryd.isAgg2
  z2 := Tryd.sizeOf2
  v2 := Tryd.zeroValue2
  t3 := Tryd.underlying3
  a3 := Tryd.isAgg3
  z3 := Tryd.sizeOf3
  v3 := Tryd.zeroValue3
  t4 := Tryd.underlying4
  a4 := Tryd.isAgg4
  z4 := Tryd.sizeOf4
  v4 := Tryd.zeroValue4
  t5 := Tryd.underlying5
  a5 := Tryd.isAgg5
  z5 := Tryd.sizeOf5
  v5 := Tryd.zeroValue5
  t9 := Tryd.underlying9
  a9 := Tryd.isAgg9
  z9 := Tryd.sizeOf9
  v9 := Tryd.zeroValue9
  t20 := Tryd.underlying20
  a20 := Tryd.isAgg20
  z20 := Tryd.sizeOf20
  v20 := Tryd.zeroValue20
  t37 := Tryd.underlying22
  a37 := Tryd.isAgg22
  z37 := Tryd.sizeOf22
  v37 := Tryd.zeroValue22
  t46 := Tryd.underlying89
  a46 := Tryd.isAgg89
  z46 := Tryd.sizeOf89
  v46 := Tryd.zeroValue89
  t51 := Tryd.underlying112
  a51 := Tryd.isAgg112
  z51 := Tryd.sizeOf112
  v51 := Tryd.zeroValue112
  t53 := Tryd.underlying82
  a53 := Tryd.isAgg82
  z53 := Tryd.sizeOf82
  v53 := Tryd.zeroValue82
  t171 := Tryd.underlying104
  a171 := Tryd.isAgg104
  z171 := Tryd.sizeOf104
  v171 := Tryd.zeroValue104
  t173 := Tryd.underlying107
  a173 := Tryd.isAgg107
  z173 := Tryd.sizeOf107
  v173 := Tryd.zeroValue107
  t212 := Tryd.underlying111
  a212 := Tryd.isAgg111
  z212 := Tryd.sizeOf111
  v212 := Tryd.zeroValue111
  t213 := Tryd.underlying113
  a213 := Tryd.isAgg113
  z213 := Tryd.sizeOf113
  t232 := Tryd.underlying117
  a232 := Tryd.isAgg117
  z232 := Tryd.sizeOf117
  v232 := Tryd.zeroValue117
  t233 := Tryd.underlying52
  a233 := Tryd.isAgg52
  z233 := Tryd.sizeOf52
  v233 := Tryd.zeroValue52
  g17 := by kernel_rfl
  g18 := by kernel_rfl
  g19 := by kernel_rfl }
open Go.RowKit Go.Sort Go.Lib in
/-- THE ROAD WITHOUT THE TABLE: 0 <= i < 100. (LAID: no walk: one application.) -/
theorem Tryd.internal_strconv_Itoa_small (i : Nat) (hi : i < 100) (w : World) :
    Calls Tryd.prog 74 #[.int .i64 i] w fun e w' => e = .returned (.string ⟨(Lib.decDigits i).toArray⟩) ∧ w' = w := Any.internal_strconv_Itoa_small Tryd.lays243 i hi w
def Tryd.laysM171_ren : Go.Shelf.Ren := ⟨fun | 171 => 70 | 243 => 74 | 246 => 78 | 283 => 81 | 284 => 82 | 285 => 83 | 286 => 84 | 129 => 86 | 317 => 85 | 318 => 87 | 319 => 88 | 320 => 89 | 337 => 90 | 338 => 91 | n => n, fun | 3 => 3 | 9 => 9 | 2 => 2 | 4 => 4 | 171 => 104 | 0 => 0 | 53 => 82 | 37 => 22 | 5 => 5 | 173 => 107 | 212 => 111 | 51 => 112 | 20 => 20 | 213 => 113 | 46 => 89 | 232 => 117 | 233 => 52 | n => n, fun | 17 => 0 | 18 => 1 | 19 => 2 | n => n⟩
theorem Tryd.laysM171 : Go.Proofs.LaysM.n171 Tryd.prog Tryd.laysM171_ren := {
  mixed := by kernel_rfl
  f129 := Tryd.func86.trans (congrArg some (by kernel_rfl))
  f171 := Tryd.func70.trans (congrArg some (by kernel_rfl))
  f243 := Tryd.func74.trans (congrArg some (by kernel_rfl))
  f246 := Tryd.func78.trans (congrArg some (by kernel_rfl))
  f283 := Tryd.func81.trans (congrArg some (by kernel_rfl))
  f284 := Tryd.func82.trans (congrArg some (by kernel_rfl))
  f285 := Tryd.func83.trans (congrArg some (by kernel_rfl))
  f286 := Tryd.func84.trans (congrArg some (by kernel_rfl))
  f317 := Tryd.func85.trans (congrArg some (by kernel_rfl))
  f318 := Tryd.func87.trans (congrArg some (by kernel_rfl))
  f319 := Tryd.func88.trans (congrArg some (by kernel_rfl))
  f320 := Tryd.func89.trans (congrArg some (by kernel_rfl))
  f337 := Tryd.func90.trans (congrArg some (by kernel_rfl))
  f338 := Tryd.func91.trans (congrArg some (by kernel_rfl))
  t0 := Tryd.underlying0
  a0 := Tryd.isAgg0
  z0 := Tryd.sizeOf0
  v0 := Tryd.zeroValue0
  t2 := Tryd.underlying2
  a2 := Tryd.isAgg2
  z2 := Tryd.sizeOf2
  v2 := Tryd.zeroValue2
  t3 := Tryd.underlying3
  a3 := Tryd.isAgg3
  z3 := Tryd.sizeOf3
  v3 := Tryd.zeroValue3
  t4 := Tryd.underlying4
  a4 := Tryd.isAgg4
  z4 := Tryd.sizeOf4
  v4 := Tryd.zeroValue4
  t5 := Tryd.underlying5
  a5 := Tryd.isAgg5
  z5 := Tryd.sizeOf5
  v5 := Tryd.zeroValue5
  t9 := Tryd.underlying9
  a9 := Tryd.isAgg9
  z9 := Tryd.sizeOf9
  v9 := Tryd.zeroValue9
  t20 := Tryd.underlying20
  a20 := Tryd.isAgg20
  z20 := Tryd.sizeOf20
  v20 := Tryd.zeroValue20
  t37 := Tryd.underlying22
  a37 := Tryd.isAgg22
  z37 := Tryd.sizeOf22
  v37 := Tryd.zeroValue22
  t46 := Tryd.underlying89
  a46 := Tryd.isAgg89
  z46 := Tryd.sizeOf89
  v46 := Tryd.zeroValue89
  t51 := Tryd.underlying112
  a51 := Tryd.isAgg112
  z51 := Tryd.sizeOf112
  v51 := Tryd.zeroValue112
  t53 := Tryd.underlying82
  a53 := Tryd.isAgg82
  z53 := Tryd.sizeOf82
  v53 := Tryd.zeroValue82
  t171 := Tryd.underlying104
  a171 := Tryd.isAgg104
  z171 := Tryd.sizeOf104
  v171 := Tryd.zeroValue104
  t173 := Tryd.underlying107
  a173 := Tryd.isAgg107
  z173 := Tryd.sizeOf107
  v173 := Tryd.zeroValue107
  t212 := Tryd.underlying111
  a212 := Tryd.isAgg111
  z212 := Tryd.sizeOf111
  v212 := Tryd.zeroValue111
  t213 := Tryd.underlying113
  a213 := Tryd.isAgg113
  z213 := Tryd.sizeOf113
  t232 := Tryd.underlying117
  a232 := Tryd.isAgg117
  z232 := Tryd.sizeOf117
  v232 := Tryd.zeroValue117
  t233 := Tryd.underlying52
  a233 := Tryd.isAgg52
  z233 := Tryd.sizeOf52
  v233 := Tryd.zeroValue52
  g17 := by kernel_rfl
  g18 := by kernel_rfl
  g19 := by kernel_rfl
  i0 := by kernel_rfl
  i2 := by kernel_rfl
  i3 := by kernel_rfl
  i4 := by kernel_rfl
  i5 := by kernel_rfl
  i9 := by kernel_rfl
  i20 := by kernel_rfl
  i37 := by kernel_rfl
  i46 := by kernel_rfl
  i51 := by kernel_rfl
  i53 := by kernel_rfl
  i171 := by kernel_rfl
  i173 := by kernel_rfl
  i212 := by kernel_rfl
  i232 := by kernel_rfl
  i233 := by kernel_rfl
  m17 := by kernel_rfl
  m18 := by kernel_rfl
  m19 := by kernel_rfl }
open Go.RowKit Go.Sort Go.Lib in
/-- strconv.Itoa: "Itoa is equivalent to FormatInt(int64(i), 10).": i's DECIMAL NUMERAL ('Lib.itoa': a '-' where i is negative, then the digits), FOR EVERY int. The world behind the call: the world before it, new blocks behind the heap (the library's 'var a [24]byte'), draws. (LAID: no walk: one application.) -/
theorem Tryd.strconv_Itoa (n : Int) (h0 : -9223372036854775808 ≤ n) (h1 : n ≤ 9223372036854775807) (w : World) (htab : Lib.TabIs Tryd.prog w "internal/strconv.uint64pow10" .u64 Lib.pow10Tab) :
    Calls Tryd.prog 70 #[.int .i64 n] w fun e w' => e = .returned (.string ⟨(Lib.itoa n).toArray⟩) ∧ ∃ k os, w' = grow (w.drewN k) os := Any.strconv_Itoa Tryd.laysM171 n h0 h1 w htab
def Tryd.lays171_ren : Go.Shelf.Ren := ⟨fun | 171 => 70 | 243 => 74 | 246 => 78 | 283 => 81 | 284 => 82 | 285 => 83 | 286 => 84 | 129 => 86 | 317 => 85 | 318 => 87 | 319 => 88 | 320 => 89 | 337 => 90 | 338 => 91 | n => n, fun | 3 => 3 | 9 => 9 | 2 => 2 | 4 => 4 | 171 => 104 | 0 => 0 | 53 => 82 | 37 => 22 | 5 => 5 | 173 => 107 | 212 => 111 | 51 => 112 | 20 => 20 | 213 => 113 | 46 => 89 | 232 => 117 | 233 => 52 | n => n, fun | 17 => 0 | 18 => 1 | 19 => 2 | n => n⟩
theorem Tryd.lays171 : Go.Proofs.Lays.n171 Tryd.prog Tryd.lays171_ren := {
  mixed := by kernel_rfl
  f129 := Tryd.func86.trans (congrArg some (by kernel_rfl))
  f171 := Tryd.func70.trans (congrArg some (by kernel_rfl))
  f243 := Tryd.func74.trans (congrArg some (by kernel_rfl))
  f246 := Tryd.func78.trans (congrArg some (by kernel_rfl))
  f283 := Tryd.func81.trans (congrArg some (by kernel_rfl))
  f284 := Tryd.func82.trans (congrArg some (by kernel_rfl))
  f285 := Tryd.func83.trans (congrArg some (by kernel_rfl))
  f286 := Tryd.func84.trans (congrArg some (by kernel_rfl))
  f317 := Tryd.func85.trans (congrArg some (by kernel_rfl))
  f318 := Tryd.func87.trans (congrArg some (by kernel_rfl))
  f319 := Tryd.func88.trans (congrArg some (by kernel_rfl))
  f320 := Tryd.func89.trans (congrArg some (by kernel_rfl))
  f337 := Tryd.func90.trans (congrArg some (by kernel_rfl))
  f338 := Tryd.func91.trans (congrArg some (by kernel_rfl))
  t0 := Tryd.underlying0
  a0 := Tryd.isAgg0
  z0 := Tryd.sizeOf0
  v0 := Tryd.zeroValue0
  t2 := Tryd.underlying2
  a2 := Tryd.isAgg2
  z2 := Tryd.sizeOf2
  v2 := Tryd.zeroValue2
  t3 := Tryd.underlying3
  a3 := Tryd.isAgg3
  z3 := Tryd.sizeOf3
  v3 := Tryd.zeroValue3
  t4 := Tryd.underlying4
  a4 := Tryd.isAgg4
  z4 := Tryd.sizeOf4
  v4 := Tryd.zeroValue4
  t5 := Tryd.underlying5
  a5 := Tryd.isAgg5
  z5 := Tryd.sizeOf5
  v5 := Tryd.zeroValue5
  t9 := Tryd.underlying9
  a9 := Tryd.isAgg9
  z9 := Tryd.sizeOf9
  v9 := Tryd.zeroValue9
  t20 := Tryd.underlying20
  a20 := Tryd.isAgg20
  z20 := Tryd.sizeOf20
  v20 := Tryd.zeroValue20
  t37 := Tryd.underlying22
  a37 := Tryd.isAgg22
  z37 := Tryd.sizeOf22
  v37 := Tryd.zeroValue22
  t46 := Tryd.underlying89
  a46 := Tryd.isAgg89
  z46 := Tryd.sizeOf89
  v46 := Tryd.zeroValue89
  t51 := Tryd.underlying112
  a51 := Tryd.isAgg112
  z51 := Tryd.sizeOf112
  v51 := Tryd.zeroValue112
  t53 := Tryd.underlying82
  a53 := Tryd.isAgg82
  z53 := Tryd.sizeOf82
  v53 := Tryd.zeroValue82
  t171 := Tryd.underlying104
  a171 := Tryd.isAgg104
  z171 := Tryd.sizeOf104
  v171 := Tryd.zeroValue104
  t173 := Tryd.underlying107
  a173 := Tryd.isAgg107
  z173 := Tryd.sizeOf107
  v173 := Tryd.zeroValue107
  t212 := Tryd.underlying111
  a212 := Tryd.isAgg111
  z212 := Tryd.sizeOf111
  v212 := Tryd.zeroValue111
  t213 := Tryd.underlying113
  a213 := Tryd.isAgg113
  z213 := Tryd.sizeOf113
  t232 := Tryd.underlying117
  a232 := Tryd.isAgg117
  z232 := Tryd.sizeOf117
  v232 := Tryd.zeroValue117
  t233 := Tryd.underlying52
  a233 := Tryd.isAgg52
  z233 := Tryd.sizeOf52
  v233 := Tryd.zeroValue52
  g17 := by kernel_rfl
  g18 := by kernel_rfl
  g19 := by kernel_rfl }
open Go.RowKit Go.Sort Go.Lib in
/-- THE ROAD WITHOUT THE TABLE: 0 <= i < 100: NO PREMISE ON THE WORLD, AND THE WORLD IS AS IT WAS: a row that keeps its argument in that range need list no table ('laid = []'). (LAID: no walk: one application.) -/
theorem Tryd.strconv_Itoa_small (i : Nat) (hi : i < 100) (w : World) :
    Calls Tryd.prog 70 #[.int .i64 i] w fun e w' => e = .returned (.string ⟨(Lib.decDigits i).toArray⟩) ∧ w' = w := Any.strconv_Itoa_small Tryd.lays171 i hi w
def Tryd.lays115_ren : Go.Shelf.Ren := ⟨fun | 115 => 51 | n => n, fun | 37 => 22 | 4 => 4 | 9 => 9 | 5 => 5 | n => n, fun | n => n⟩
theorem Tryd.lays115 : Go.Proofs.Lays.n115 Tryd.prog Tryd.lays115_ren := {
  mixed := by kernel_rfl
  f115 := Tryd.func51.trans (congrArg some (by kernel_rfl))
  t4 := Tryd.underlying4
  a4 := Tryd.isAgg4
  z4 := Tryd.sizeOf4
  v4 := Tryd.zeroValue4
  t9 := Tryd.underlying9
  a9 := Tryd.isAgg9
  z9 := Tryd.sizeOf9
  v9 := Tryd.zeroValue9
  t37 := Tryd.underlying22
  a37 := Tryd.isAgg22
  z37 := Tryd.sizeOf22
  v37 := Tryd.zeroValue22 }
open Go.Proofs Go.RowKit Go.Lib in
/-- bytes.Equal, each argument with what 'string(..)' of it gives. (LAID: no walk: one application.) -/
theorem Tryd.bytes_Equal_strs (v1 v2 : Value) (t1 t2 : ByteArray) (w : World) (h1 : (convert 22 9 v1).run Tryd.prog w = .ok (.string t1) w) (h2 : (convert 22 9 v2).run Tryd.prog w = .ok (.string t2) w) :
    Calls Tryd.prog 51 #[v1, v2] w fun e w' => e = .returned (.bool (t1.toList == t2.toList)) ∧ w' = w := Any.bytes_Equal_strs Tryd.lays115 v1 v2 t1 t2 w h1 h2
def Tryd.laysSlK4_ren : Go.Shelf.Ren := ⟨fun | 4 => 39 | n => n, fun | 22 => 22 | 4 => 4 | 5 => 5 | n => n, fun | n => n⟩
theorem Tryd.laysSlK4 : Go.Proofs.SlLaysK.n4 Tryd.prog Tryd.laysSlK4_ren := {
  mixed := by kernel_rfl
  f4 := Tryd.func39.trans (congrArg some (by kernel_rfl))
  t4 := Tryd.underlying4
  a4 := Tryd.isAgg4
  z4 := Tryd.sizeOf4
  v4 := Tryd.zeroValue4
  t22 := Tryd.underlying22
  a22 := Tryd.isAgg22
  z22 := Tryd.sizeOf22
  v22 := Tryd.zeroValue22
  t5 := Tryd.underlying5
  i5 := by kernel_rfl }
open Go.RowKit Go.Lib in
/-- bytes.Clone: "Clone returns a copy of b[:len(b)]. The result may have additional unused capacity.": OF A SLICE THAT IS NOT nil IT RETURNS A SLICE THAT IS NOT nil, OF THE SAME BYTES, IN MEMORY OF THE CALL's OWN: in the how-to's words (6f): 'w'.ownsRow B e 1 v' n cells' · 'Below B w w'', B the heap's size at the call. b AT WHATEVER ADDRESS, its cells as 'open_ints' hands them ('a.add i'; the numbers 'xs'). No byte: no cell is asked for. (LAID: no walk: one application.) -/
theorem Tryd.bytes_Clone_at (a : Addr) (n c : Nat) (xs : List Int) (w : World) (hx : xs.length = n) (hbig : n ≤ 140737488355328) (hc : ∀ i, i < n → w.cell? (a.add i) = some (.int .u8 (xs.getD i 0))) :
    Calls Tryd.prog 39 #[.slice (some a) n c] w fun e w' => ∃ v', e = .returned v' ∧ w'.ownsRow w.heap.size 5 1 v' n (xs.map (Value.int .u8)) ∧ v' ≠ .slice none 0 0 ∧ Below w.heap.size w w' := Any.bytes_Clone_at Tryd.laysSlK4 a n c xs w hx hbig hc
open Go.RowKit Go.Lib in
/-- "Clone(nil) returns nil.": the world is as it was. (LAID: no walk: one application.) -/
theorem Tryd.bytes_Clone_nil (n c : Nat) (w : World) :
    Calls Tryd.prog 39 #[.slice none n c] w fun e w' => e = .returned (.slice none 0 0) ∧ w' = w := Any.bytes_Clone_nil Tryd.laysSlK4 n c w
def Tryd.laysnb115_ren : Go.Shelf.Ren := ⟨fun | 115 => 51 | n => n, fun | 37 => 22 | 4 => 4 | 9 => 9 | 5 => 5 | n => n, fun | n => n⟩
theorem Tryd.laysnb115 : Go.Proofs.Lays.nb115 Tryd.prog Tryd.laysnb115_ren := {
  mixed := by kernel_rfl
  f115 := Tryd.func51.trans (congrArg some (by kernel_rfl))
  t4 := Tryd.underlying4
  a4 := Tryd.isAgg4
  z4 := Tryd.sizeOf4
  v4 := Tryd.zeroValue4
  t9 := Tryd.underlying9
  a9 := Tryd.isAgg9
  z9 := Tryd.sizeOf9
  v9 := Tryd.zeroValue9
  t37 := Tryd.underlying22
  a37 := Tryd.isAgg22
  z37 := Tryd.sizeOf22
  v37 := Tryd.zeroValue22
  t5 := Tryd.underlying5
  a5 := Tryd.isAgg5
  z5 := Tryd.sizeOf5
  v5 := Tryd.zeroValue5 }
/-- bytes.Equal: WHOLE. (LAID: no walk: one application.) -/
theorem Tryd.bytes_Equal_all (p1 p2 : Option Addr) (n c m d : Nat) (xs ys : List Int) (w : World) (hx : xs.length = n) (hy : ys.length = m) (h1 : Lib.BytesIn w p1 n xs) (h2 : Lib.BytesIn w p2 m ys) :
    Calls Tryd.prog 51 #[.slice p1 n c, .slice p2 m d] w fun e w' => e = .returned (.bool (Lib.bytesOf xs == Lib.bytesOf ys)) ∧ w' = w := Any.bytes_Equal_all Tryd.laysnb115 p1 p2 n c m d xs ys w hx hy h1 h2
/-- bytes.Equal: "Equal reports whether a and b are the same length and contain the same bytes. A nil argument is equivalent to an empty slice.": IT RETURNS 'the bytes of the one == the bytes of the other'; the world is as it was. THE TWO ARGUMENTS COME AS WHATEVER VALUES, each with the one fact that the walk wants of it: what 'string(..)' of it gives: for a slice whose cells you know: 'run_convert_bytes_arg' (Derived/Laws/BytesArg.lean) hands that fact; for a nil one: 'run_convert_bytes_nil' (with xs := []). (LAID: no walk: one application.) -/
theorem Tryd.bytes_Equal (v1 v2 : Value) (xs ys : List Int) (w : World) (h1 : (convert 22 9 v1).run Tryd.prog w = .ok (.string (strOfNums xs)) w) (h2 : (convert 22 9 v2).run Tryd.prog w = .ok (.string (strOfNums ys)) w) :
    Calls Tryd.prog 51 #[v1, v2] w fun e w' => e = .returned (.bool (Lib.bytesOf xs == Lib.bytesOf ys)) ∧ w' = w := Any.bytes_Equal Tryd.lays115 v1 v2 xs ys w h1 h2
end Go.Proofs

/- The program's digits, out of the library's contract. -/
namespace Go.Proofs.YtdakeodebgggfaaDoor
open Go.RowKit
set_option linter.unusedVariables false
set_option linter.unusedSimpArgs false
set_option maxRecDepth 100000
set_option maxHeartbeats 2000000
theorem dec_libM (n : Nat) : Lib.decDigits n = dec n := by
  induction n using Nat.strongRecOn with
  | _ n ih =>
    rw [Lib.decDigits, dec]
    split
    · rfl
    · rw [ih _ (by omega)]
theorem itoa_libM (n : Nat) : Lib.itoa (n : Int) = dec n := by
  rw [Lib.itoa, if_neg (by omega), ← dec_libM]
  rfl
/-- The library's table of powers, as data. -/
def powD : List D := Lib.pow10Tab.map fun z => .v (.int .u64 z)
theorem powG_ok : Tryd.prog.globalNamed "internal/strconv.uint64pow10" = some 0 := by kernel_rfl
theorem tab_is {w : World} {S : Nat → Prop} (h : Tab w S 0 powD) : Lib.TabIs Tryd.prog w "internal/strconv.uint64pow10" .u64 Lib.pow10Tab := by
  obtain ⟨h1, h2, arr, ty, fz, h3, h4⟩ := h
  unfold Lib.TabIs World.var?
  rw [powG_ok, Option.bind_some, h3]
  show some arr = _
  refine congrArg some (Array.ext ?_ ?_)
  · rw [h4]
    simp [powD]
  · intro i hi hj
    have hi' : i < powD.length := by omega
    generalize hp : Value.pointer (some ⟨0, 0, none⟩) = u at h1
    cases h1 with
    | ptr off b o cs us hb hw hr =>
      injection hp with hp
      injection hp with hp
      injection hp with hp1 hp2
      subst hp1
      have ho : o = 0 := by omega
      subst ho
      have g0 : powD[i]? = some powD[i] := List.getElem?_eq_getElem hi'
      have g1 := hw i _ g0
      have g2 := hr i _ g0
      have g3 : powD[i] = .v (.int .u64 (Lib.pow10Tab[i]'(by simpa [powD] using hi'))) := by simp [powD]
      rw [g3] at g2
      generalize us i = q at g1 g2
      cases g2
      have hq : i < arr.size := by rw [h4]; exact hi'
      simp only [World.cell?, h3, Nat.zero_add, Array.getElem?_eq_getElem hq, Option.some.injEq] at g1
      simp
      injection g1
theorem itoa_m {G : Nat → Option (List D)} (hG : G 0 = some powD) (n : Nat) (hn : n ≤ 9223372036854775807) : Spec Tryd.prog G 70 [.c (.v (.int .i64 n))] (.one (.c (.v (.string ⟨(dec n).toArray⟩)))) := by
  intro w S vs hS hT hA
  obtain ⟨hl, hc⟩ := hA
  match vs, hl with
  | [u], _ =>
    obtain rfl : u = .int .i64 n := by
      have h := hc 0 _ _ rfl rfl
      have h : RD w S (.v (.int .i64 n)) u := h
      cases h
      rfl
    refine Calls.mono (Tryd.strconv_Itoa n (by omega) (by omega) w (tab_is (hT _ _ hG))) ?_
    rintro e w1 ⟨rfl, k, os, rfl⟩
    rw [itoa_libM]
    have hB := Lib.below_grow w.heap.size w (Nat.le_refl _) k os
    exact ⟨⟨hB.os, hB.tape, hB.output, hB.size, fun k hk _ => hB.block k hk⟩, _, rfl, .v _ rfl⟩
theorem putlen_m {G : Nat → Option (List D)} (hG : G 0 = some powD) (n : Nat) (hn : n ≤ 9223372036854775807) : Spec Tryd.prog G 65 [.c (.v (.int .i64 n))] (.one (.c (.v (.string ⟨(dec n).toArray⟩)))) := by
  refine spec_of Tryd.func65 rfl rfl rfl (by kernel_rfl) rfl fun K => ?_
  (repeat' (first | with_reducible refine sound_seq_k fun Kn hK => ?_ | with_reducible refine sound_region (by kernel_rfl) ?_ | with_reducible refine sound_drawn (by kernel_rfl) (by kernel_rfl) ?_ | with_reducible refine sound_block ?_ | with_reducible refine sound_if ?_ | with_reducible refine sound_ret ?_ | with_reducible refine sound_skip ?_ | with_reducible refine sound_exit ?_ | (with_reducible refine hK _ ?_; clear hK; clear Kn) | (clear hK; clear Kn; with_reducible refine hK _ ?_; clear hK; clear Kn) | (clear hK; clear Kn; clear hK; clear Kn; with_reducible refine hK _ ?_; clear hK; clear Kn) | (refine ⟨_, itoa_m hG n hn, ?_⟩) | with_reducible refine ex_bytes ?_ | with_reducible refine loopU_step ?_ | with_reducible refine retO_ret ?_ ?_ | with_reducible refine retO_normal ?_ ?_ | with_reducible refine And.intro (show logOk _ _ = true by kernel_rfl) ?_ | simp (maxSteps := 10000000) (implicitDefEqProofs := false) (disch := omega) only [wrap_id, wrap8, max_r, max_l, min_r, min_l] | (with_reducible refine br_intro (fun hb => ?_) (fun hb => ?_) <;> (try simp only [hb])) | (with_reducible refine And.intro (by first | omega | (simp; done) | (simp; omega)) ?_) | simp (maxSteps := 10000000) (implicitDefEqProofs := false) only [go_sem, Nat.reduceEqDiff, Nat.reduceBEq, ↓reduceIte, Nat.reduceAdd, Nat.reduceMul, Nat.reduceSub, Nat.reduceLeDiff, Nat.reduceLT, reduceCtorEq, Int.reduceLE, Int.reduceLT, Int.reduceToNat, Int.reduceBEq, true_and] | fail))
end Go.Proofs.YtdakeodebgggfaaDoor

/- What the cards' proofs share: the tables, a world for the witness, arguments opened. -/
namespace Go.Proofs.YtdakeodebgggfaaDoor
open Go.ChangeShapes Go.WideShapes Go.ChangeAt Go.RowKit
set_option maxRecDepth 100000

theorem ownK : ownKnob Tryd.prog.godebug = none := by kernel_rfl
theorem laidK : laidOutB Tryd.prog = true := by kernel_rfl
theorem gPow : Tryd.prog.globalNamed "internal/strconv.uint64pow10" = some 0 := by kernel_rfl
theorem gPowType : (Tryd.prog.globals[0]?).map (·.type) = some 111 := by kernel_rfl
/-- What the rows' list gives. -/
def laid3 {H : Type} : List (String × DataW H) := [("math/bits.deBruijn32tab", Rows.laid_math_bits_deBruijn32tab), ("math/bits.deBruijn64tab", Rows.laid_math_bits_deBruijn64tab), ("internal/strconv.uint64pow10", Rows.laid_internal_strconv_uint64pow10)]
/-- The tables, as data. -/
def tabG (g : Nat) : Option (List D) := if g = 0 then some powD else none
theorem tabG_pow : tabG 0 = some powD := rfl
theorem tab_of {w : World} (h : Lib.TabIs Tryd.prog w "internal/strconv.uint64pow10" .u64 Lib.pow10Tab) : Tab w (fun b => b < w.heap.size) 0 powD := by
  unfold Lib.TabIs World.var? at h
  rw [powG_ok, Option.bind_some] at h
  split at h
  · rename_i arr ty fz h3
    injection h with h
    subst h
    refine ⟨?_, (Array.getElem?_eq_some_iff.1 h3).1, _, _, _, h3, by simp [powD]⟩
    refine .ptr 0 _ 0 _ (fun i => ((Lib.pow10Tab.map fun z => Value.int .u64 z)[i]?).getD undef) (Array.getElem?_eq_some_iff.1 h3).1 (fun i x hx => ?_) fun i x hx => ?_
    all_goals
      simp only [powD, List.getElem?_map] at hx
      cases hq : Lib.pow10Tab[i]? with
      | none => rw [hq] at hx; cases hx
      | some z =>
        rw [hq] at hx
        have hx : some (D.v (.int .u64 z)) = some x := hx
        injection hx with hx
        subst hx
        have e : (Lib.pow10Tab.map fun z => Value.int .u64 z)[i]? = some (.int .u64 z) := by simp [hq]
        rw [e]
        first
          | exact .v _ rfl
          | (rw [Nat.zero_add]
             simp [World.cell?, h3, hq])
  · cases h
theorem tables_of_laid {W : World} (h : laidMetH Tryd.prog laid3 W) : Tables tabG W (fun b => b < W.heap.size) := by
  have h3 : laidMet Tryd.prog [("internal/strconv.uint64pow10", Lib.tabData .u64 Lib.pow10Tab)] W := laidMet.tail (laidMet.tail h)
  intro g cs hg
  unfold tabG at hg
  split at hg
  · rename_i e
    subst e
    injection hg with hg
    subst hg
    exact tab_of (Lib.tabIs_of_head (rest := []) gPow gPowType Tryd.underlying111 Tryd.underlying82 (by kernel_rfl) (by kernel_rfl) h3)
  · cases hg
def laidAt (k : IntKind) (zs : List Int) : Obj → Obj
  | .cells _ t frozen => .cells (zs.map fun z => .int k z).toArray t frozen
  | o => o
def ints {H : Type} : DataW H → List Int
  | .agg l => l.map fun | .lit (.int _ z) => z | _ => 0
  | _ => []
noncomputable def laidWorld (os : Os) : World :=
  { World.holding Tryd.prog os ⟨#[], #[], []⟩ with heap := (((World.holding Tryd.prog os ⟨#[], #[], []⟩).heap.modify 0 (laidAt .u64 (ints (H := Unit) Rows.laid_internal_strconv_uint64pow10))).modify 1 (laidAt .u8 (ints (H := Unit) Rows.laid_math_bits_deBruijn32tab))).modify 2 (laidAt .u8 (ints (H := Unit) Rows.laid_math_bits_deBruijn64tab)) }
theorem laid_met (os : Os) (args : Array Value) : laidMet Tryd.prog laid3 ((laidWorld os).forCall (fun _ _ => 0) ⟨#[], args, []⟩).memory :=
  laidMet_of_run' 8 (by kernel_rfl) (by kernel_rfl)
theorem opens_sexp (fuel : Nat) : OpensN Tryd.prog fuel 25 Rep.tree Tree.wt :=
  opensN_tree Tryd.underlying25 (by kernel_rfl) (by kernel_rfl) Tryd.underlying4 Tryd.underlying22 Tryd.underlying5 Tryd.underlying23 (by kernel_rfl) (by kernel_rfl) (by kernel_rfl) (by kernel_rfl) fuel
theorem bulk_le {H : Type} {l : List (DataW H)} (hk : Rows.uptoSmall H l = true) : Rows.uptoBulkAll l ≤ 1048576 := of_decide_eq_true hk
end Go.Proofs.YtdakeodebgggfaaDoor

/- The program: a value cloned; two the same. -/
namespace Go.Proofs.YtdakeodebgggfaaDoor
open Go.RowKit
set_option linter.unusedVariables false
set_option linter.unusedSimpArgs false
set_option maxRecDepth 100000
set_option maxHeartbeats 2000000
theorem sclone_o {G : Nat → Option (List D)} (l : List Tree) (hl : l.length ≤ 100000000) : Spec Tryd.prog G 53 [.c (.sl l.length (l.flatMap treeC))] (.obj 7 (.a (.c (.row 7 5 0 l.length .grow))) ⟨25, (l.flatMap treeC).map C.d, false, false⟩) := by
  cases l with
  | nil =>
    refine specO_empty (pre := []) (post := []) fun A c => ?_
    refine specO_go Tryd.func53 rfl rfl rfl (by kernel_rfl) (by (simp (maxSteps := 10000000) (implicitDefEqProofs := false) only [go_sem, Nat.reduceEqDiff, Nat.reduceBEq, ↓reduceIte, Nat.reduceAdd, Nat.reduceMul, Nat.reduceSub, Nat.reduceLeDiff, Nat.reduceLT, reduceCtorEq, Int.reduceLE, Int.reduceLT, Int.reduceToNat, Int.reduceBEq, true_and]); (try simp (maxSteps := 10000000) (implicitDefEqProofs := false) (disch := omega) only [wrap_id, wrap8, max_r, max_l, min_r, min_l]); (try simp (maxSteps := 10000000) (implicitDefEqProofs := false) only [go_sem, Nat.reduceEqDiff, Nat.reduceBEq, ↓reduceIte, Nat.reduceAdd, Nat.reduceMul, Nat.reduceSub, Nat.reduceLeDiff, Nat.reduceLT, reduceCtorEq, Int.reduceLE, Int.reduceLT, Int.reduceToNat, Int.reduceBEq, true_and])) (by (simp (maxSteps := 10000000) (implicitDefEqProofs := false) only [go_sem, Nat.reduceEqDiff, Nat.reduceBEq, ↓reduceIte, Nat.reduceAdd, Nat.reduceMul, Nat.reduceSub, Nat.reduceLeDiff, Nat.reduceLT, reduceCtorEq, Int.reduceLE, Int.reduceLT, Int.reduceToNat, Int.reduceBEq, List.all_cons, List.all_nil]); (try simp (maxSteps := 10000000) (implicitDefEqProofs := false) (disch := omega) only [wrap_id, wrap8, max_r, max_l, min_r, min_l]); (try simp (maxSteps := 10000000) (implicitDefEqProofs := false) only [go_sem, Nat.reduceEqDiff, Nat.reduceBEq, ↓reduceIte, Nat.reduceAdd, Nat.reduceMul, Nat.reduceSub, Nat.reduceLeDiff, Nat.reduceLT, reduceCtorEq, Int.reduceLE, Int.reduceLT, Int.reduceToNat, Int.reduceBEq, List.all_cons, List.all_nil])) fun K m => ?_
    cases A with
    | none =>
      (repeat' (first | with_reducible refine sound_seq_k fun Kn hK => ?_ | with_reducible refine sound_region (by kernel_rfl) ?_ | with_reducible refine sound_drawn (by kernel_rfl) (by kernel_rfl) ?_ | with_reducible refine sound_block ?_ | with_reducible refine sound_if ?_ | with_reducible refine sound_exit ?_ | (with_reducible refine hK _ ?_; clear hK; clear Kn) | (clear hK; clear Kn; with_reducible refine hK _ ?_; clear hK; clear Kn) | (clear hK; clear Kn; clear hK; clear Kn; with_reducible refine hK _ ?_; clear hK; clear Kn) | fail | with_reducible refine ex_bytes ?_ | with_reducible refine loopU_step ?_ | with_reducible refine retO_ret ?_ ?_ | with_reducible refine retO_normal ?_ ?_ | with_reducible refine And.intro (show logOk _ _ = true by kernel_rfl) ?_ | simp (maxSteps := 10000000) (implicitDefEqProofs := false) (disch := omega) only [wrap_id, wrap8, max_r, max_l, min_r, min_l] | (with_reducible refine br_intro (fun hb => ?_) (fun hb => ?_) <;> (try simp only [hb])) | (with_reducible refine And.intro (by first | omega | (simp; done) | (simp; omega)) ?_) | simp (maxSteps := 10000000) (implicitDefEqProofs := false) only [go_sem, Nat.reduceEqDiff, Nat.reduceBEq, ↓reduceIte, Nat.reduceAdd, Nat.reduceMul, Nat.reduceSub, Nat.reduceLeDiff, Nat.reduceLT, reduceCtorEq, Int.reduceLE, Int.reduceLT, Int.reduceToNat, Int.reduceBEq, true_and, List.flatMap_nil] | fail))
      refine sound_void 2 7 5 25 (by rfl) (by rfl) ?_
      (repeat' (first | with_reducible refine sound_seq_k fun Kn hK => ?_ | with_reducible refine sound_region (by kernel_rfl) ?_ | with_reducible refine sound_drawn (by kernel_rfl) (by kernel_rfl) ?_ | with_reducible refine sound_block ?_ | with_reducible refine sound_if ?_ | with_reducible refine sound_ret ?_ | with_reducible refine sound_skip ?_ | with_reducible refine sound_exit ?_ | (with_reducible refine hK _ ?_; clear hK; clear Kn) | (clear hK; clear Kn; with_reducible refine hK _ ?_; clear hK; clear Kn) | (clear hK; clear Kn; clear hK; clear Kn; with_reducible refine hK _ ?_; clear hK; clear Kn) | refine raw_t (by rfl) (by rfl) (by rfl) | with_reducible refine ex_bytes ?_ | with_reducible refine loopU_step ?_ | with_reducible refine retO_ret ?_ ?_ | with_reducible refine retO_normal ?_ ?_ | with_reducible refine And.intro (show logOk _ _ = true by kernel_rfl) ?_ | simp (maxSteps := 10000000) (implicitDefEqProofs := false) (disch := omega) only [wrap_id, wrap8, max_r, max_l, min_r, min_l] | (with_reducible refine br_intro (fun hb => ?_) (fun hb => ?_) <;> (try simp only [hb])) | (with_reducible refine And.intro (by first | omega | (simp; done) | (simp; omega)) ?_) | simp (maxSteps := 10000000) (implicitDefEqProofs := false) only [go_sem, Nat.reduceEqDiff, Nat.reduceBEq, ↓reduceIte, Nat.reduceAdd, Nat.reduceMul, Nat.reduceSub, Nat.reduceLeDiff, Nat.reduceLT, reduceCtorEq, Int.reduceLE, Int.reduceLT, Int.reduceToNat, Int.reduceBEq, true_and, List.flatMap_nil, List.map_nil] | fail))
    | some A => (repeat' (first | with_reducible refine sound_seq_k fun Kn hK => ?_ | with_reducible refine sound_region (by kernel_rfl) ?_ | with_reducible refine sound_drawn (by kernel_rfl) (by kernel_rfl) ?_ | with_reducible refine sound_block ?_ | with_reducible refine sound_if ?_ | with_reducible refine sound_ret ?_ | with_reducible refine sound_skip ?_ | with_reducible refine sound_exit ?_ | (with_reducible refine hK _ ?_; clear hK; clear Kn) | (clear hK; clear Kn; with_reducible refine hK _ ?_; clear hK; clear Kn) | (clear hK; clear Kn; clear hK; clear Kn; with_reducible refine hK _ ?_; clear hK; clear Kn) | refine raw_t (by rfl) (by rfl) (by rfl) | with_reducible refine ex_bytes ?_ | with_reducible refine loopU_step ?_ | with_reducible refine retO_ret ?_ ?_ | with_reducible refine retO_normal ?_ ?_ | with_reducible refine And.intro (show logOk _ _ = true by kernel_rfl) ?_ | simp (maxSteps := 10000000) (implicitDefEqProofs := false) (disch := omega) only [wrap_id, wrap8, max_r, max_l, min_r, min_l] | (with_reducible refine br_intro (fun hb => ?_) (fun hb => ?_) <;> (try simp only [hb])) | (with_reducible refine And.intro (by first | omega | (simp; done) | (simp; omega)) ?_) | simp (maxSteps := 10000000) (implicitDefEqProofs := false) only [go_sem, Nat.reduceEqDiff, Nat.reduceBEq, ↓reduceIte, Nat.reduceAdd, Nat.reduceMul, Nat.reduceSub, Nat.reduceLeDiff, Nat.reduceLT, reduceCtorEq, Int.reduceLE, Int.reduceLT, Int.reduceToNat, Int.reduceBEq, true_and, List.flatMap_nil, List.map_nil] | fail))
  | cons x l =>
    generalize hn : x :: l = k at *
    have h0 : 0 < k.length := by rw [← hn]; simp
    refine specO_go Tryd.func53 rfl rfl rfl (by kernel_rfl) (by (simp (maxSteps := 10000000) (implicitDefEqProofs := false) only [go_sem, Nat.reduceEqDiff, Nat.reduceBEq, ↓reduceIte, Nat.reduceAdd, Nat.reduceMul, Nat.reduceSub, Nat.reduceLeDiff, Nat.reduceLT, reduceCtorEq, Int.reduceLE, Int.reduceLT, Int.reduceToNat, Int.reduceBEq, true_and]); (try simp (maxSteps := 10000000) (implicitDefEqProofs := false) (disch := omega) only [wrap_id, wrap8, max_r, max_l, min_r, min_l]); (try simp (maxSteps := 10000000) (implicitDefEqProofs := false) only [go_sem, Nat.reduceEqDiff, Nat.reduceBEq, ↓reduceIte, Nat.reduceAdd, Nat.reduceMul, Nat.reduceSub, Nat.reduceLeDiff, Nat.reduceLT, reduceCtorEq, Int.reduceLE, Int.reduceLT, Int.reduceToNat, Int.reduceBEq, true_and])) (by (simp (maxSteps := 10000000) (implicitDefEqProofs := false) only [go_sem, Nat.reduceEqDiff, Nat.reduceBEq, ↓reduceIte, Nat.reduceAdd, Nat.reduceMul, Nat.reduceSub, Nat.reduceLeDiff, Nat.reduceLT, reduceCtorEq, Int.reduceLE, Int.reduceLT, Int.reduceToNat, Int.reduceBEq, List.all_cons, List.all_nil]); (try simp (maxSteps := 10000000) (implicitDefEqProofs := false) (disch := omega) only [wrap_id, wrap8, max_r, max_l, min_r, min_l]); (try simp (maxSteps := 10000000) (implicitDefEqProofs := false) only [go_sem, Nat.reduceEqDiff, Nat.reduceBEq, ↓reduceIte, Nat.reduceAdd, Nat.reduceMul, Nat.reduceSub, Nat.reduceLeDiff, Nat.reduceLT, reduceCtorEq, Int.reduceLE, Int.reduceLT, Int.reduceToNat, Int.reduceBEq, List.all_cons, List.all_nil])) fun K m => ?_
    (repeat' (first | with_reducible refine sound_seq_k fun Kn hK => ?_ | with_reducible refine sound_region (by kernel_rfl) ?_ | with_reducible refine sound_drawn (by kernel_rfl) (by kernel_rfl) ?_ | with_reducible refine sound_block ?_ | with_reducible refine sound_if ?_ | with_reducible refine sound_ret ?_ | with_reducible refine sound_skip ?_ | with_reducible refine sound_exit ?_ | (with_reducible refine hK _ ?_; clear hK; clear Kn) | (clear hK; clear Kn; with_reducible refine hK _ ?_; clear hK; clear Kn) | (clear hK; clear Kn; clear hK; clear Kn; with_reducible refine hK _ ?_; clear hK; clear Kn) | refine raw_t (by rfl) (by rfl) (by rfl) | with_reducible refine ex_bytes ?_ | with_reducible refine loopU_step ?_ | with_reducible refine retO_ret ?_ ?_ | with_reducible refine retO_normal ?_ ?_ | with_reducible refine And.intro (show logOk _ _ = true by kernel_rfl) ?_ | simp (maxSteps := 10000000) (implicitDefEqProofs := false) (disch := omega) only [wrap_id, wrap8, max_r, max_l, min_r, min_l] | (with_reducible refine br_intro (fun hb => ?_) (fun hb => ?_) <;> (try simp only [hb])) | (with_reducible refine And.intro (by first | omega | (simp; done) | (simp; omega)) ?_) | simp (maxSteps := 10000000) (implicitDefEqProofs := false) only [go_sem, Nat.reduceEqDiff, Nat.reduceBEq, ↓reduceIte, Nat.reduceAdd, Nat.reduceMul, Nat.reduceSub, Nat.reduceLeDiff, Nat.reduceLT, reduceCtorEq, Int.reduceLE, Int.reduceLT, Int.reduceToNat, Int.reduceBEq, List.length_map] | fail))
theorem clone_m {G : Nat → Option (List D)} : ∀ t : Tree, ∀ cs : List D, treeC t = cs → t.wt ≤ 10000000 → Spec Tryd.prog G 38 [.g cs] (.one (.g cs)) := Tree.ind fun t ih cs hcs hw => by
  subst hcs
  refine spec_of Tryd.func38 rfl rfl rfl (by kernel_rfl) rfl fun K => ?_
  rw [treeC_eq]
  have hlh := t.wt_hint
  have hld := t.wt_data
  have hlk := t.wt_kids
  (repeat' (first | with_reducible refine sound_seq_k fun Kn hK => ?_ | with_reducible refine sound_region (by kernel_rfl) ?_ | with_reducible refine sound_drawn (by kernel_rfl) (by kernel_rfl) ?_ | with_reducible refine sound_block ?_ | with_reducible refine sound_if ?_ | with_reducible refine sound_ret ?_ | with_reducible refine sound_skip ?_ | with_reducible refine sound_exit ?_ | (with_reducible refine hK _ ?_; clear hK; clear Kn) | (clear hK; clear Kn; with_reducible refine hK _ ?_; clear hK; clear Kn) | (clear hK; clear Kn; clear hK; clear Kn; with_reducible refine hK _ ?_; clear hK; clear Kn) | (refine ⟨_, bclone_m t.hint (by omega), ?_⟩) | (refine ⟨_, bclone_m t.data (by omega), ?_⟩) | (refine ⟨_, sclone_o t.kids (by omega), ?_⟩) | with_reducible refine ex_bytes ?_ | with_reducible refine loopU_step ?_ | with_reducible refine retO_ret ?_ ?_ | with_reducible refine retO_normal ?_ ?_ | with_reducible refine And.intro (show logOk _ _ = true by kernel_rfl) ?_ | simp (maxSteps := 10000000) (implicitDefEqProofs := false) (disch := omega) only [wrap_id, wrap8, max_r, max_l, min_r, min_l] | (with_reducible refine br_intro (fun hb => ?_) (fun hb => ?_) <;> (try simp only [hb])) | (with_reducible refine And.intro (by first | omega | (simp; done) | (simp; omega)) ?_) | simp (maxSteps := 10000000) (implicitDefEqProofs := false) only [go_sem, Nat.reduceEqDiff, Nat.reduceBEq, ↓reduceIte, Nat.reduceAdd, Nat.reduceMul, Nat.reduceSub, Nat.reduceLeDiff, Nat.reduceLT, reduceCtorEq, Int.reduceLE, Int.reduceLT, Int.reduceToNat, Int.reduceBEq, true_and] | fail))
  refine sound_loopR (fun x : {k : Nat // k ≤ t.kids.length} => ⟨[(1, vP 1 0), (2, vP 2 0), (18, vR 13 5 t.kids.length), (19, vI t.kids.length), (20, vI x.1)],
    [(1, some ⟨25, [.d (.v (.bool t.list)), .d (.v (.bool t.hinted)), .d (bytesD t.hint), .d (bytesD t.data), .row 13 5 0 t.kids.length .grow], true, false⟩), (13, some ⟨25, (t.kids.flatMap treeC).map C.d, false, false⟩), (2, some ⟨25, zeroOf Tryd.prog 25, true, false⟩)]⟩)
    (fun x => t.kids.length - x.1) ⟨0, by omega⟩ [] (by (simp (maxSteps := 10000000) (implicitDefEqProofs := false) only [go_sem, Nat.reduceEqDiff, Nat.reduceBEq, ↓reduceIte, Nat.reduceAdd, Nat.reduceMul, Nat.reduceSub, Nat.reduceLeDiff, Nat.reduceLT, reduceCtorEq, Int.reduceLE, Int.reduceLT, Int.reduceToNat, Int.reduceBEq, true_and]); (try simp (maxSteps := 10000000) (implicitDefEqProofs := false) (disch := omega) only [wrap_id, wrap8, max_r, max_l, min_r, min_l]); (try simp (maxSteps := 10000000) (implicitDefEqProofs := false) only [go_sem, Nat.reduceEqDiff, Nat.reduceBEq, ↓reduceIte, Nat.reduceAdd, Nat.reduceMul, Nat.reduceSub, Nat.reduceLeDiff, Nat.reduceLT, reduceCtorEq, Int.reduceLE, Int.reduceLT, Int.reduceToNat, Int.reduceBEq, true_and]); simp) (fun ⟨k, hk⟩ => ?_)
  by_cases hlt : k < t.kids.length
  · obtain ⟨x, hx⟩ : ∃ x, t.kids[k]? = some x := ⟨_, List.getElem?_eq_getElem hlt⟩
    have hb : decide ((k : Int) < (t.kids.length : Int)) = true := by simpa using hlt
    have hm := List.mem_of_getElem? hx
    have hfa := flat_atC treeC_len hx
    have hss := splice_same hfa
    (repeat' (first | with_reducible refine sound_seq_k fun Kn hK => ?_ | with_reducible refine sound_region (by kernel_rfl) ?_ | with_reducible refine sound_drawn (by kernel_rfl) (by kernel_rfl) ?_ | with_reducible refine sound_block ?_ | with_reducible refine sound_if ?_ | with_reducible refine sound_ret ?_ | with_reducible refine sound_skip ?_ | with_reducible refine sound_exit ?_ | (with_reducible refine hK _ ?_; clear hK; clear Kn) | (clear hK; clear Kn; with_reducible refine hK _ ?_; clear hK; clear Kn) | (clear hK; clear Kn; clear hK; clear Kn; with_reducible refine hK _ ?_; clear hK; clear Kn) | (refine ⟨_, ih x hm _ rfl (by have := Tree.wt_kid hm; omega), ?_⟩) | with_reducible refine ex_bytes ?_ | with_reducible refine loopU_step ?_ | with_reducible refine retO_ret ?_ ?_ | with_reducible refine retO_normal ?_ ?_ | with_reducible refine And.intro (show logOk _ _ = true by kernel_rfl) ?_ | simp (maxSteps := 10000000) (implicitDefEqProofs := false) (disch := omega) only [wrap_id, wrap8, max_r, max_l, min_r, min_l] | (with_reducible refine br_intro (fun hb => ?_) (fun hb => ?_) <;> (try simp only [hb])) | (with_reducible refine And.intro (by first | omega | (simp; done) | (simp; omega)) ?_) | simp (maxSteps := 10000000) (implicitDefEqProofs := false) only [go_sem, Nat.reduceEqDiff, Nat.reduceBEq, ↓reduceIte, Nat.reduceAdd, Nat.reduceMul, Nat.reduceSub, Nat.reduceLeDiff, Nat.reduceLT, reduceCtorEq, Int.reduceLE, Int.reduceLT, Int.reduceToNat, Int.reduceBEq, hb, hfa, hss, List.length_map] | fail))
    refine ⟨[], ⟨k + 1, hlt⟩, ?_⟩
    (simp (maxSteps := 10000000) (implicitDefEqProofs := false) only [go_sem, Nat.reduceEqDiff, Nat.reduceBEq, ↓reduceIte, Nat.reduceAdd, Nat.reduceMul, Nat.reduceSub, Nat.reduceLeDiff, Nat.reduceLT, reduceCtorEq, Int.reduceLE, Int.reduceLT, Int.reduceToNat, Int.reduceBEq, true_and]); (try simp (maxSteps := 10000000) (implicitDefEqProofs := false) (disch := omega) only [wrap_id, wrap8, max_r, max_l, min_r, min_l]); (try simp (maxSteps := 10000000) (implicitDefEqProofs := false) only [go_sem, Nat.reduceEqDiff, Nat.reduceBEq, ↓reduceIte, Nat.reduceAdd, Nat.reduceMul, Nat.reduceSub, Nat.reduceLeDiff, Nat.reduceLT, reduceCtorEq, Int.reduceLE, Int.reduceLT, Int.reduceToNat, Int.reduceBEq, true_and])
    try (simp only [SV.a.injEq, AV.c.injEq, C.d.injEq, D.v.injEq, Value.int.injEq, true_and, and_true, DR.one.injEq, DV.c.injEq, OutO.ret.injEq]; first | done | omega | (split <;> omega) | (simp; done) | (simp; omega))
  · have hb : decide ((k : Int) < (t.kids.length : Int)) = false := by simpa using hlt
    obtain rfl : k = t.kids.length := by omega
    (repeat' (first | with_reducible refine sound_seq_k fun Kn hK => ?_ | with_reducible refine sound_region (by kernel_rfl) ?_ | with_reducible refine sound_drawn (by kernel_rfl) (by kernel_rfl) ?_ | with_reducible refine sound_block ?_ | with_reducible refine sound_if ?_ | with_reducible refine sound_ret ?_ | with_reducible refine sound_skip ?_ | with_reducible refine sound_exit ?_ | (with_reducible refine hK _ ?_; clear hK; clear Kn) | (clear hK; clear Kn; with_reducible refine hK _ ?_; clear hK; clear Kn) | (clear hK; clear Kn; clear hK; clear Kn; with_reducible refine hK _ ?_; clear hK; clear Kn) | fail | with_reducible refine ex_bytes ?_ | with_reducible refine loopU_step ?_ | with_reducible refine retO_ret ?_ ?_ | with_reducible refine retO_normal ?_ ?_ | with_reducible refine And.intro (show logOk _ _ = true by kernel_rfl) ?_ | simp (maxSteps := 10000000) (implicitDefEqProofs := false) (disch := omega) only [wrap_id, wrap8, max_r, max_l, min_r, min_l] | (with_reducible refine br_intro (fun hb => ?_) (fun hb => ?_) <;> (try simp only [hb])) | (with_reducible refine And.intro (by first | omega | (simp; done) | (simp; omega)) ?_) | simp (maxSteps := 10000000) (implicitDefEqProofs := false) only [go_sem, Nat.reduceEqDiff, Nat.reduceBEq, ↓reduceIte, Nat.reduceAdd, Nat.reduceMul, Nat.reduceSub, Nat.reduceLeDiff, Nat.reduceLT, reduceCtorEq, Int.reduceLE, Int.reduceLT, Int.reduceToNat, Int.reduceBEq, hb] | fail))
end Go.Proofs.YtdakeodebgggfaaDoor

/- Two values the same: the reference's word. -/
namespace Go.Proofs.YtdakeodebgggfaaDoor
open Go.RowKit
set_option linter.unusedVariables false
set_option linter.unusedSimpArgs false
set_option maxRecDepth 100000
set_option maxHeartbeats 2000000
theorem same_t {t u : Tree} (h : t = u) : t.same u = true := by
  unfold Tree.same
  exact @decide_eq_true _ (Classical.propDecidable _) h
theorem same_f {t u : Tree} (h : t ≠ u) : t.same u = false := by
  unfold Tree.same
  exact @decide_eq_false _ (Classical.propDecidable _) h
theorem same_of {t u : Tree} (h : t.same u = true) : t = u := by
  refine Classical.byContradiction fun hn => ?_
  rw [same_f hn] at h
  cases h
theorem sameref_m {G : Nat → Option (List D)} : ∀ (t u : Tree) (cs ds : List D), treeC t = cs → treeC u = ds → t.wt ≤ 1000000000 → Spec Tryd.prog G 18 [.g cs, .g ds] (.one (.c (.v (.bool (t.same u))))) := Tree.ind fun t ih u cs ds hcs hds hw => by
  subst hcs hds
  refine spec_of Tryd.func18 rfl rfl rfl (by kernel_rfl) rfl fun K => ?_
  rw [treeC_eq t, treeC_eq u]
  refine sound_seq_k fun Kn hK => ?_
  refine sound_region (by kernel_rfl) ?_
  (simp (maxSteps := 10000000) (implicitDefEqProofs := false) only [go_sem, Nat.reduceEqDiff, Nat.reduceBEq, ↓reduceIte, Nat.reduceAdd, Nat.reduceMul, Nat.reduceSub, Nat.reduceLeDiff, Nat.reduceLT, reduceCtorEq, Int.reduceLE, Int.reduceLT, Int.reduceToNat, Int.reduceBEq, true_and]); (try simp (maxSteps := 10000000) (implicitDefEqProofs := false) (disch := omega) only [wrap_id, wrap8, max_r, max_l, min_r, min_l]); (try simp (maxSteps := 10000000) (implicitDefEqProofs := false) only [go_sem, Nat.reduceEqDiff, Nat.reduceBEq, ↓reduceIte, Nat.reduceAdd, Nat.reduceMul, Nat.reduceSub, Nat.reduceLeDiff, Nat.reduceLT, reduceCtorEq, Int.reduceLE, Int.reduceLT, Int.reduceToNat, Int.reduceBEq, true_and])
  refine hK _ ?_; clear hK; clear Kn
  refine sound_seq_k fun Kn hK => ?_
  have hL : (t.list = u.list ∧ t.hinted = u.hinted ∧ t.hint = u.hint ∧ t.data = u.data ∧ t.kids.length = u.kids.length) → ∀ s, LessL (renK []) ⟨[(2, vP 2 0), (3, vP 3 0)], [(2, some ⟨25, treeK t, true, false⟩), (3, some ⟨25, treeK u, true, false⟩)]⟩ (Fr0 Tryd.f18.ntmps) s → Kn s := by
    intro hf s hl
    refine hK _ (sound_lessR _ _ hl ?_)
    clear hK hl
    (repeat' (first | with_reducible refine sound_seq_k fun Kn hK => ?_ | with_reducible refine sound_region (by kernel_rfl) ?_ | with_reducible refine sound_drawn (by kernel_rfl) (by kernel_rfl) ?_ | with_reducible refine sound_block ?_ | with_reducible refine sound_if ?_ | with_reducible refine sound_ret ?_ | with_reducible refine sound_skip ?_ | with_reducible refine sound_exit ?_ | (with_reducible refine hK _ ?_; clear hK; clear Kn) | (clear hK; clear Kn; with_reducible refine hK _ ?_; clear hK; clear Kn) | (clear hK; clear Kn; clear hK; clear Kn; with_reducible refine hK _ ?_; clear hK; clear Kn) | fail | with_reducible refine ex_bytes ?_ | with_reducible refine loopU_step ?_ | with_reducible refine retO_ret ?_ ?_ | with_reducible refine retO_normal ?_ ?_ | with_reducible refine And.intro (show logOk _ _ = true by kernel_rfl) ?_ | simp (maxSteps := 10000000) (implicitDefEqProofs := false) (disch := omega) only [wrap_id, wrap8, max_r, max_l, min_r, min_l] | (with_reducible refine br_intro (fun hb => ?_) (fun hb => ?_) <;> (try simp only [hb])) | (with_reducible refine And.intro (by first | omega | (simp; done) | (simp; omega)) ?_) | simp (maxSteps := 10000000) (implicitDefEqProofs := false) only [go_sem, Nat.reduceEqDiff, Nat.reduceBEq, ↓reduceIte, Nat.reduceAdd, Nat.reduceMul, Nat.reduceSub, Nat.reduceLeDiff, Nat.reduceLT, reduceCtorEq, Int.reduceLE, Int.reduceLT, Int.reduceToNat, Int.reduceBEq, true_and] | fail))
    refine sound_loopR (fun x : {k : Nat // k ≤ t.kids.length ∧ t.kids.take k = u.kids.take k} => ⟨[(2, vP 2 0), (3, vP 3 0), (47, vI t.kids.length), (48, vI x.1)], [(2, some ⟨25, treeK t, true, false⟩), (3, some ⟨25, treeK u, true, false⟩)]⟩) (fun x => t.kids.length - x.1) ⟨0, by simp⟩ [] (by simp (maxSteps := 10000000) (implicitDefEqProofs := false) only [go_sem, Nat.reduceEqDiff, Nat.reduceBEq, ↓reduceIte, Nat.reduceAdd, Nat.reduceMul, Nat.reduceSub, Nat.reduceLeDiff, Nat.reduceLT, reduceCtorEq, Int.reduceLE, Int.reduceLT, Int.reduceToNat, Int.reduceBEq]; simp) (fun ⟨k, hk, hall⟩ => ?_)
    have h5 := t.wt_kids
    by_cases hlt : k < t.kids.length
    · obtain ⟨x, hx⟩ : ∃ x, t.kids[k]? = some x := ⟨_, List.getElem?_eq_getElem hlt⟩
      obtain ⟨y, hy⟩ : ∃ y, u.kids[k]? = some y := ⟨_, List.getElem?_eq_getElem (by omega)⟩
      have hb : decide ((k : Int) < (t.kids.length : Int)) = true := by simpa using hlt
      have hm := List.mem_of_getElem? hx
      (repeat' (first | with_reducible refine sound_seq_k fun Kn hK => ?_ | with_reducible refine sound_region (by kernel_rfl) ?_ | with_reducible refine sound_drawn (by kernel_rfl) (by kernel_rfl) ?_ | with_reducible refine sound_block ?_ | with_reducible refine sound_if ?_ | with_reducible refine sound_ret ?_ | with_reducible refine sound_skip ?_ | with_reducible refine sound_exit ?_ | (with_reducible refine hK _ ?_; clear hK; clear Kn) | (clear hK; clear Kn; with_reducible refine hK _ ?_; clear hK; clear Kn) | (clear hK; clear Kn; clear hK; clear Kn; with_reducible refine hK _ ?_; clear hK; clear Kn) | (refine ⟨_, ih x hm y _ _ rfl rfl (by have := Tree.wt_kid hm; omega), ?_⟩) | with_reducible refine ex_bytes ?_ | with_reducible refine loopU_step ?_ | with_reducible refine retO_ret ?_ ?_ | with_reducible refine retO_normal ?_ ?_ | with_reducible refine And.intro (show logOk _ _ = true by kernel_rfl) ?_ | simp (maxSteps := 10000000) (implicitDefEqProofs := false) (disch := omega) only [wrap_id, wrap8, max_r, max_l, min_r, min_l] | (with_reducible refine br_intro (fun hb => ?_) (fun hb => ?_) <;> (try simp only [hb])) | (with_reducible refine And.intro (by first | omega | (simp; done) | (simp; omega)) ?_) | simp (maxSteps := 10000000) (implicitDefEqProofs := false) only [go_sem, Nat.reduceEqDiff, Nat.reduceBEq, ↓reduceIte, Nat.reduceAdd, Nat.reduceMul, Nat.reduceSub, Nat.reduceLeDiff, Nat.reduceLT, reduceCtorEq, Int.reduceLE, Int.reduceLT, Int.reduceToNat, Int.reduceBEq, hb, flat_at treeC_len hx, flat_at treeC_len hy] | fail))
      · refine ⟨[], ⟨k + 1, hlt, ?_⟩, ?_⟩
        · rw [List.take_add_one, List.take_add_one, hx, hy, hall, same_of hb]
        · (simp (maxSteps := 10000000) (implicitDefEqProofs := false) only [go_sem, Nat.reduceEqDiff, Nat.reduceBEq, ↓reduceIte, Nat.reduceAdd, Nat.reduceMul, Nat.reduceSub, Nat.reduceLeDiff, Nat.reduceLT, reduceCtorEq, Int.reduceLE, Int.reduceLT, Int.reduceToNat, Int.reduceBEq, true_and, or_false]); (try simp (maxSteps := 10000000) (implicitDefEqProofs := false) (disch := omega) only [wrap_id, wrap8, max_r, max_l, min_r, min_l]); (try simp (maxSteps := 10000000) (implicitDefEqProofs := false) only [go_sem, Nat.reduceEqDiff, Nat.reduceBEq, ↓reduceIte, Nat.reduceAdd, Nat.reduceMul, Nat.reduceSub, Nat.reduceLeDiff, Nat.reduceLT, reduceCtorEq, Int.reduceLE, Int.reduceLT, Int.reduceToNat, Int.reduceBEq, true_and, or_false])
          (simp only [SV.a.injEq, AV.c.injEq, C.d.injEq, D.v.injEq, Value.int.injEq, true_and, and_true, DR.one.injEq, DV.c.injEq, OutO.ret.injEq]; first | done | omega | (split <;> omega) | (simp; done) | (simp; omega))
      · rw [same_f]
        rintro rfl
        rw [hx] at hy
        injection hy with hy
        rw [same_t hy] at hb
        cases hb
    · have hb : decide ((k : Int) < (t.kids.length : Int)) = false := by simpa using hlt
      obtain rfl : k = t.kids.length := by omega
      (repeat' (first | with_reducible refine sound_seq_k fun Kn hK => ?_ | with_reducible refine sound_region (by kernel_rfl) ?_ | with_reducible refine sound_drawn (by kernel_rfl) (by kernel_rfl) ?_ | with_reducible refine sound_block ?_ | with_reducible refine sound_if ?_ | with_reducible refine sound_ret ?_ | with_reducible refine sound_skip ?_ | with_reducible refine sound_exit ?_ | (with_reducible refine hK _ ?_; clear hK; clear Kn) | (clear hK; clear Kn; with_reducible refine hK _ ?_; clear hK; clear Kn) | (clear hK; clear Kn; clear hK; clear Kn; with_reducible refine hK _ ?_; clear hK; clear Kn) | fail | with_reducible refine ex_bytes ?_ | with_reducible refine loopU_step ?_ | with_reducible refine retO_ret ?_ ?_ | with_reducible refine retO_normal ?_ ?_ | with_reducible refine And.intro (show logOk _ _ = true by kernel_rfl) ?_ | simp (maxSteps := 10000000) (implicitDefEqProofs := false) (disch := omega) only [wrap_id, wrap8, max_r, max_l, min_r, min_l] | (with_reducible refine br_intro (fun hb => ?_) (fun hb => ?_) <;> (try simp only [hb])) | (with_reducible refine And.intro (by first | omega | (simp; done) | (simp; omega)) ?_) | simp (maxSteps := 10000000) (implicitDefEqProofs := false) only [go_sem, Nat.reduceEqDiff, Nat.reduceBEq, ↓reduceIte, Nat.reduceAdd, Nat.reduceMul, Nat.reduceSub, Nat.reduceLeDiff, Nat.reduceLT, reduceCtorEq, Int.reduceLE, Int.reduceLT, Int.reduceToNat, Int.reduceBEq, hb] | fail))
      rw [List.take_length, hf.2.2.2.2, List.take_length] at hall
      rw [same_t (Tree.ext_iff.2 ⟨hf.1, hf.2.1, hf.2.2.1, hf.2.2.2.1, hall⟩)]
  clear hK
  (repeat' (first | with_reducible refine sound_seq_k fun Kn hK => ?_ | with_reducible refine sound_region (by kernel_rfl) ?_ | with_reducible refine sound_drawn (by kernel_rfl) (by kernel_rfl) ?_ | with_reducible refine sound_block ?_ | with_reducible refine sound_if ?_ | with_reducible refine sound_ret ?_ | with_reducible refine sound_skip ?_ | with_reducible refine sound_exit ?_ | (with_reducible refine hK _ ?_; clear hK; clear Kn) | (clear hK; clear Kn; with_reducible refine hK _ ?_; clear hK; clear Kn) | (clear hK; clear Kn; clear hK; clear Kn; with_reducible refine hK _ ?_; clear hK; clear Kn) | (refine hL (by refine ⟨?_, ?_, ?_, ?_, ?_⟩ <;> first | (simp_all; done) | (simp_all; omega)) _ ?_) | with_reducible refine ex_bytes ?_ | with_reducible refine loopU_step ?_ | with_reducible refine retO_ret ?_ ?_ | with_reducible refine retO_normal ?_ ?_ | with_reducible refine And.intro (show logOk _ _ = true by kernel_rfl) ?_ | simp (maxSteps := 10000000) (implicitDefEqProofs := false) (disch := omega) only [wrap_id, wrap8, max_r, max_l, min_r, min_l] | (with_reducible refine br_intro (fun hb => ?_) (fun hb => ?_) <;> (try simp only [hb])) | (with_reducible refine And.intro (by first | omega | (simp; done) | (simp; omega)) ?_) | simp (maxSteps := 10000000) (implicitDefEqProofs := false) only [go_sem, Nat.reduceEqDiff, Nat.reduceBEq, ↓reduceIte, Nat.reduceAdd, Nat.reduceMul, Nat.reduceSub, Nat.reduceLeDiff, Nat.reduceLT, reduceCtorEq, Int.reduceLE, Int.reduceLT, Int.reduceToNat, Int.reduceBEq, true_and] | fail))
  all_goals first | (simp; done) | (rw [same_f]; rintro rfl; simp at hb)
end Go.Proofs.YtdakeodebgggfaaDoor

/- The program: two values the same. -/
namespace Go.Proofs.YtdakeodebgggfaaDoor
open Go.RowKit
set_option linter.unusedVariables false
set_option linter.unusedSimpArgs false
set_option maxRecDepth 100000
set_option maxHeartbeats 2000000
noncomputable def sameL (l m : List Tree) : Bool := @decide (l = m) (Classical.propDecidable _)
theorem sameL_t {l m : List Tree} (h : l = m) : sameL l m = true := by
  unfold sameL
  exact @decide_eq_true _ (Classical.propDecidable _) h
theorem sameL_f {l m : List Tree} (h : l ≠ m) : sameL l m = false := by
  unfold sameL
  exact @decide_eq_false _ (Classical.propDecidable _) h
theorem eqfunc_m {G : Nat → Option (List D)} (l m : List Tree) (hl : l.length ≤ 100000000)
    (ih : ∀ x ∈ l, ∀ (u : Tree) (cs ds : List D), treeC x = cs → treeC u = ds → Spec Tryd.prog G 40 [.g cs, .g ds] (.one (.c (.v (.bool (x.same u)))))) :
    Spec Tryd.prog G 54 [.c (.sl l.length (l.flatMap treeC)), .c (.sl m.length (m.flatMap treeC)), .c (.v (.func (.func 40) #[] #[]))] (.one (.c (.v (.bool (sameL l m))))) := by
  refine spec_of Tryd.func54 rfl rfl rfl (by kernel_rfl) rfl fun K => ?_
  by_cases hn : l.length = m.length
  · have d1 : ((l.length : Int) == (m.length : Int)) = true := by simp [hn]
    (repeat' (first | with_reducible refine sound_seq_k fun Kn hK => ?_ | with_reducible refine sound_region (by kernel_rfl) ?_ | with_reducible refine sound_drawn (by kernel_rfl) (by kernel_rfl) ?_ | with_reducible refine sound_block ?_ | with_reducible refine sound_if ?_ | with_reducible refine sound_ret ?_ | with_reducible refine sound_skip ?_ | with_reducible refine sound_exit ?_ | (with_reducible refine hK _ ?_; clear hK; clear Kn) | (clear hK; clear Kn; with_reducible refine hK _ ?_; clear hK; clear Kn) | (clear hK; clear Kn; clear hK; clear Kn; with_reducible refine hK _ ?_; clear hK; clear Kn) | fail | with_reducible refine ex_bytes ?_ | with_reducible refine loopU_step ?_ | with_reducible refine retO_ret ?_ ?_ | with_reducible refine retO_normal ?_ ?_ | with_reducible refine And.intro (show logOk _ _ = true by kernel_rfl) ?_ | simp (maxSteps := 10000000) (implicitDefEqProofs := false) (disch := omega) only [wrap_id, wrap8, max_r, max_l, min_r, min_l] | (with_reducible refine br_intro (fun hb => ?_) (fun hb => ?_) <;> (try simp only [hb])) | (with_reducible refine And.intro (by first | omega | (simp; done) | (simp; omega)) ?_) | simp (maxSteps := 10000000) (implicitDefEqProofs := false) only [go_sem, Nat.reduceEqDiff, Nat.reduceBEq, ↓reduceIte, Nat.reduceAdd, Nat.reduceMul, Nat.reduceSub, Nat.reduceLeDiff, Nat.reduceLT, reduceCtorEq, Int.reduceLE, Int.reduceLT, Int.reduceToNat, Int.reduceBEq, d1] | fail))
    refine sound_loopR (fun x : {k : Nat // k ≤ l.length ∧ l.take k = m.take k} => ⟨[(1, vD (.sl m.length (m.flatMap treeC))), (2, vD (.v (.func (.func 40) #[] #[]))), (15, vD (.sl l.length (l.flatMap treeC))), (16, vI l.length), (17, vI x.1)], []⟩) (fun x => l.length - x.1) ⟨0, by simp⟩ [] (by (simp (maxSteps := 10000000) (implicitDefEqProofs := false) only [go_sem, Nat.reduceEqDiff, Nat.reduceBEq, ↓reduceIte, Nat.reduceAdd, Nat.reduceMul, Nat.reduceSub, Nat.reduceLeDiff, Nat.reduceLT, reduceCtorEq, Int.reduceLE, Int.reduceLT, Int.reduceToNat, Int.reduceBEq, true_and]); (try simp (maxSteps := 10000000) (implicitDefEqProofs := false) (disch := omega) only [wrap_id, wrap8, max_r, max_l, min_r, min_l]); (try simp (maxSteps := 10000000) (implicitDefEqProofs := false) only [go_sem, Nat.reduceEqDiff, Nat.reduceBEq, ↓reduceIte, Nat.reduceAdd, Nat.reduceMul, Nat.reduceSub, Nat.reduceLeDiff, Nat.reduceLT, reduceCtorEq, Int.reduceLE, Int.reduceLT, Int.reduceToNat, Int.reduceBEq, true_and]); try simp) (fun ⟨k, hk, hall⟩ => ?_)
    by_cases hlt : k < l.length
    · obtain ⟨x, hx⟩ : ∃ x, l[k]? = some x := ⟨_, List.getElem?_eq_getElem hlt⟩
      obtain ⟨y, hy⟩ : ∃ y, m[k]? = some y := ⟨_, List.getElem?_eq_getElem (by omega)⟩
      have hb : decide ((k : Int) < (l.length : Int)) = true := by simpa using hlt
      have hlm : k < m.length := by omega
      (repeat' (first | with_reducible refine sound_seq_k fun Kn hK => ?_ | with_reducible refine sound_region (by kernel_rfl) ?_ | with_reducible refine sound_drawn (by kernel_rfl) (by kernel_rfl) ?_ | with_reducible refine sound_block ?_ | with_reducible refine sound_if ?_ | with_reducible refine sound_ret ?_ | with_reducible refine sound_skip ?_ | with_reducible refine sound_exit ?_ | (with_reducible refine hK _ ?_; clear hK; clear Kn) | (clear hK; clear Kn; with_reducible refine hK _ ?_; clear hK; clear Kn) | (clear hK; clear Kn; clear hK; clear Kn; with_reducible refine hK _ ?_; clear hK; clear Kn) | (refine ⟨_, ih x (List.mem_of_getElem? hx) y _ _ rfl rfl, ?_⟩) | with_reducible refine ex_bytes ?_ | with_reducible refine loopU_step ?_ | with_reducible refine retO_ret ?_ ?_ | with_reducible refine retO_normal ?_ ?_ | with_reducible refine And.intro (show logOk _ _ = true by kernel_rfl) ?_ | simp (maxSteps := 10000000) (implicitDefEqProofs := false) (disch := omega) only [wrap_id, wrap8, max_r, max_l, min_r, min_l] | (with_reducible refine br_intro (fun hb => ?_) (fun hb => ?_) <;> (try simp only [hb])) | (with_reducible refine And.intro (by first | omega | (simp; done) | (simp; omega)) ?_) | simp (maxSteps := 10000000) (implicitDefEqProofs := false) only [go_sem, Nat.reduceEqDiff, Nat.reduceBEq, ↓reduceIte, Nat.reduceAdd, Nat.reduceMul, Nat.reduceSub, Nat.reduceLeDiff, Nat.reduceLT, reduceCtorEq, Int.reduceLE, Int.reduceLT, Int.reduceToNat, Int.reduceBEq, hb, flat_at treeC_len hx, flat_at treeC_len hy, List.length_map] | fail))
      · refine ⟨[], ⟨k + 1, hlt, ?_⟩, ?_⟩
        · rw [List.take_add_one, List.take_add_one, hx, hy, hall, same_of hb]
        · (simp (maxSteps := 10000000) (implicitDefEqProofs := false) only [go_sem, Nat.reduceEqDiff, Nat.reduceBEq, ↓reduceIte, Nat.reduceAdd, Nat.reduceMul, Nat.reduceSub, Nat.reduceLeDiff, Nat.reduceLT, reduceCtorEq, Int.reduceLE, Int.reduceLT, Int.reduceToNat, Int.reduceBEq, true_and]); (try simp (maxSteps := 10000000) (implicitDefEqProofs := false) (disch := omega) only [wrap_id, wrap8, max_r, max_l, min_r, min_l]); (try simp (maxSteps := 10000000) (implicitDefEqProofs := false) only [go_sem, Nat.reduceEqDiff, Nat.reduceBEq, ↓reduceIte, Nat.reduceAdd, Nat.reduceMul, Nat.reduceSub, Nat.reduceLeDiff, Nat.reduceLT, reduceCtorEq, Int.reduceLE, Int.reduceLT, Int.reduceToNat, Int.reduceBEq, true_and])
          try (simp only [SV.a.injEq, AV.c.injEq, C.d.injEq, D.v.injEq, Value.int.injEq, true_and, and_true, DR.one.injEq, DV.c.injEq, OutO.ret.injEq]; first | done | omega | (split <;> omega) | (simp; done) | (simp; omega))
      · rw [sameL_f]
        rintro rfl
        rw [hx] at hy
        injection hy with hy
        rw [same_t hy] at hb
        cases hb
    · have hb : decide ((k : Int) < (l.length : Int)) = false := by simpa using hlt
      obtain rfl : k = l.length := by omega
      rw [List.take_length, hn, List.take_length] at hall
      (repeat' (first | with_reducible refine sound_seq_k fun Kn hK => ?_ | with_reducible refine sound_region (by kernel_rfl) ?_ | with_reducible refine sound_drawn (by kernel_rfl) (by kernel_rfl) ?_ | with_reducible refine sound_block ?_ | with_reducible refine sound_if ?_ | with_reducible refine sound_ret ?_ | with_reducible refine sound_skip ?_ | with_reducible refine sound_exit ?_ | (with_reducible refine hK _ ?_; clear hK; clear Kn) | (clear hK; clear Kn; with_reducible refine hK _ ?_; clear hK; clear Kn) | (clear hK; clear Kn; clear hK; clear Kn; with_reducible refine hK _ ?_; clear hK; clear Kn) | fail | with_reducible refine ex_bytes ?_ | with_reducible refine loopU_step ?_ | with_reducible refine retO_ret ?_ ?_ | with_reducible refine retO_normal ?_ ?_ | with_reducible refine And.intro (show logOk _ _ = true by kernel_rfl) ?_ | simp (maxSteps := 10000000) (implicitDefEqProofs := false) (disch := omega) only [wrap_id, wrap8, max_r, max_l, min_r, min_l] | (with_reducible refine br_intro (fun hb => ?_) (fun hb => ?_) <;> (try simp only [hb])) | (with_reducible refine And.intro (by first | omega | (simp; done) | (simp; omega)) ?_) | simp (maxSteps := 10000000) (implicitDefEqProofs := false) only [go_sem, Nat.reduceEqDiff, Nat.reduceBEq, ↓reduceIte, Nat.reduceAdd, Nat.reduceMul, Nat.reduceSub, Nat.reduceLeDiff, Nat.reduceLT, reduceCtorEq, Int.reduceLE, Int.reduceLT, Int.reduceToNat, Int.reduceBEq, hb] | fail))
      rw [sameL_t hall]
  · have d1 : ((l.length : Int) == (m.length : Int)) = false := by
      rw [beq_eq_false_iff_ne]
      omega
    (repeat' (first | with_reducible refine sound_seq_k fun Kn hK => ?_ | with_reducible refine sound_region (by kernel_rfl) ?_ | with_reducible refine sound_drawn (by kernel_rfl) (by kernel_rfl) ?_ | with_reducible refine sound_block ?_ | with_reducible refine sound_if ?_ | with_reducible refine sound_ret ?_ | with_reducible refine sound_skip ?_ | with_reducible refine sound_exit ?_ | (with_reducible refine hK _ ?_; clear hK; clear Kn) | (clear hK; clear Kn; with_reducible refine hK _ ?_; clear hK; clear Kn) | (clear hK; clear Kn; clear hK; clear Kn; with_reducible refine hK _ ?_; clear hK; clear Kn) | fail | with_reducible refine ex_bytes ?_ | with_reducible refine loopU_step ?_ | with_reducible refine retO_ret ?_ ?_ | with_reducible refine retO_normal ?_ ?_ | with_reducible refine And.intro (show logOk _ _ = true by kernel_rfl) ?_ | simp (maxSteps := 10000000) (implicitDefEqProofs := false) (disch := omega) only [wrap_id, wrap8, max_r, max_l, min_r, min_l] | (with_reducible refine br_intro (fun hb => ?_) (fun hb => ?_) <;> (try simp only [hb])) | (with_reducible refine And.intro (by first | omega | (simp; done) | (simp; omega)) ?_) | simp (maxSteps := 10000000) (implicitDefEqProofs := false) only [go_sem, Nat.reduceEqDiff, Nat.reduceBEq, ↓reduceIte, Nat.reduceAdd, Nat.reduceMul, Nat.reduceSub, Nat.reduceLeDiff, Nat.reduceLT, reduceCtorEq, Int.reduceLE, Int.reduceLT, Int.reduceToNat, Int.reduceBEq, d1] | fail))
    rw [sameL_f]
    rintro rfl
    exact hn rfl
theorem same_m {G : Nat → Option (List D)} : ∀ (t u : Tree) (cs ds : List D), treeC t = cs → treeC u = ds → t.wt ≤ 10000000 → Spec Tryd.prog G 40 [.g cs, .g ds] (.one (.c (.v (.bool (t.same u))))) := Tree.ind fun t ih u cs ds hcs hds hw => by
  subst hcs hds
  refine spec_of Tryd.func40 rfl rfl rfl (by kernel_rfl) rfl fun K => ?_
  rw [treeC_eq t, treeC_eq u]
  have hlk := t.wt_kids
  have he : t.same u = (t.list == u.list && t.hinted == u.hinted && t.hint == u.hint && t.data == u.data && sameL t.kids u.kids) := by
    rw [Bool.eq_iff_iff]
    simp only [Bool.and_eq_true, beq_iff_eq]
    refine ⟨fun h => ?_, fun ⟨⟨⟨⟨h1, h2⟩, h3⟩, h4⟩, h5⟩ => ?_⟩
    · cases same_of h
      exact ⟨⟨⟨⟨rfl, rfl⟩, rfl⟩, rfl⟩, sameL_t rfl⟩
    · refine same_t (Tree.ext_iff.2 ⟨h1, h2, h3, h4, ?_⟩)
      refine Classical.byContradiction fun hn => ?_
      rw [sameL_f hn] at h5
      cases h5
  (repeat' (first | with_reducible refine sound_seq_k fun Kn hK => ?_ | with_reducible refine sound_region (by kernel_rfl) ?_ | with_reducible refine sound_drawn (by kernel_rfl) (by kernel_rfl) ?_ | with_reducible refine sound_block ?_ | with_reducible refine sound_if ?_ | with_reducible refine sound_ret ?_ | with_reducible refine sound_skip ?_ | with_reducible refine sound_exit ?_ | (with_reducible refine hK _ ?_; clear hK; clear Kn) | (clear hK; clear Kn; with_reducible refine hK _ ?_; clear hK; clear Kn) | (clear hK; clear Kn; clear hK; clear Kn; with_reducible refine hK _ ?_; clear hK; clear Kn) | (refine ⟨_, equal_m t.hint u.hint, ?_⟩) | (refine ⟨_, equal_m t.data u.data, ?_⟩) | (refine ⟨_, eqfunc_m t.kids u.kids (by omega) (fun x hx v cs ds h1 h2 => ih x hx v cs ds h1 h2 (by have := Tree.wt_kid hx; omega)), ?_⟩) | with_reducible refine ex_bytes ?_ | with_reducible refine loopU_step ?_ | with_reducible refine retO_ret ?_ ?_ | with_reducible refine retO_normal ?_ ?_ | with_reducible refine And.intro (show logOk _ _ = true by kernel_rfl) ?_ | simp (maxSteps := 10000000) (implicitDefEqProofs := false) (disch := omega) only [wrap_id, wrap8, max_r, max_l, min_r, min_l] | (with_reducible refine br_intro (fun hb => ?_) (fun hb => ?_) <;> (try simp only [hb])) | (with_reducible refine And.intro (by first | omega | (simp; done) | (simp; omega)) ?_) | simp (maxSteps := 10000000) (implicitDefEqProofs := false) only [go_sem, Nat.reduceEqDiff, Nat.reduceBEq, ↓reduceIte, Nat.reduceAdd, Nat.reduceMul, Nat.reduceSub, Nat.reduceLeDiff, Nat.reduceLT, reduceCtorEq, Int.reduceLE, Int.reduceLT, Int.reduceToNat, Int.reduceBEq, true_and] | fail))
  all_goals (rw [he]; simp only [*]; rfl)
end Go.Proofs.YtdakeodebgggfaaDoor

/- What the program's count of a value's parts and bytes comes to. -/
namespace Go.Proofs.YtdakeodebgggfaaDoor
set_option linter.unusedVariables false
/-- Does the count let a value by? -/
def okT (t : Tree) (n d : Nat) : Bool := t.clean && decide (n + t.nodes ≤ 512) && decide (t.deep + d ≤ 17)
theorem Tree.nodes_pos (t : Tree) : 1 ≤ t.nodes := by rw [Tree.nodes_eq]; omega
theorem okT_many {t : Tree} {n d : Nat} (h : 512 < n + 1) : okT t n d = false := by
  have := t.nodes_pos
  simp [okT]
  intro _ _
  omega
theorem okT_unfair {t : Tree} {n d : Nat} (h : t.fair = false) : okT t n d = false := by simp [okT, Tree.clean_eq, h]
theorem okT_atom {t : Tree} {n d : Nat} (hl : t.list = false) (hf : t.fair = true) (hk : t.kids = []) (hn : n + 1 ≤ 512) (hd : d ≤ 17) : okT t n d = true := by
  have h1 : t.nodes = 1 := by rw [Tree.nodes_eq, hk]; rfl
  have h2 : t.deep = 0 := by rw [Tree.deep_eq, hl]; rfl
  simp [okT, Tree.clean_eq, hf, hk, h1, h2]
  omega
theorem okT_deep {t : Tree} {n d : Nat} (hl : t.list = true) (h : 16 < d) : okT t n d = false := by
  have h1 : 1 ≤ t.deep := by rw [Tree.deep_eq, hl]; simp
  simp [okT]
  intro _ _
  omega
/-- What the count knows behind k of a list's values. -/
def CInv (t : Tree) (n d k : Nat) : Prop :=
  (t.kids.take k).all Tree.clean = true ∧ n + 1 + ((t.kids.take k).map Tree.nodes).sum ≤ 512 ∧ ∀ x ∈ t.kids.take k, x.deep + (d + 1) ≤ 17
theorem CInv.zero {t : Tree} {n d : Nat} (h : n + 1 ≤ 512) : CInv t n d 0 := ⟨by simp, by simpa using h, by simp⟩
theorem okT_parts {x : Tree} {m d : Nat} (h : okT x m d = true) : x.clean = true ∧ m + x.nodes ≤ 512 ∧ x.deep + d ≤ 17 := by
  simp [okT] at h
  exact ⟨h.1.1, h.1.2, h.2⟩
theorem CInv.step {t x : Tree} {n d k : Nat} (h : CInv t n d k) (hx : t.kids[k]? = some x) (ho : okT x (n + 1 + ((t.kids.take k).map Tree.nodes).sum) (d + 1) = true) : CInv t n d (k + 1) := by
  obtain ⟨h1, h2, h3⟩ := h
  obtain ⟨o1, o2, o3⟩ := okT_parts ho
  refine ⟨by rw [List.take_add_one, hx, Option.toList_some, List.all_append, List.all_cons, List.all_nil, Bool.and_true, h1, o1]; rfl, by rw [sum_at Tree.nodes hx]; omega, fun y hy => ?_⟩
  rw [List.take_add_one, hx] at hy
  simp only [Option.toList_some, List.mem_append, List.mem_singleton] at hy
  rcases hy with hy | rfl
  · exact h3 y hy
  · exact o3
theorem CInv.done {t : Tree} {n d k : Nat} (h : CInv t n d k) (hk : t.kids.length ≤ k) (hl : t.list = true) (hf : t.fair = true) (hd : d ≤ 16) : okT t n d = true := by
  obtain ⟨h1, h2, h3⟩ := h
  rw [List.take_of_length_le hk] at h1 h2 h3
  have e1 : t.clean = true := by rw [Tree.clean_eq, hf, h1]; rfl
  have e2 : n + t.nodes ≤ 512 := by rw [Tree.nodes_eq]; omega
  have e3 : t.deep + d ≤ 17 := by
    have : most (t.kids.map Tree.deep) ≤ 16 - d := most_le.2 fun m hm => by
      obtain ⟨x, hx, rfl⟩ := List.mem_map.1 hm
      have := h3 x hx
      omega
    rw [Tree.deep_eq, hl]
    simp only [if_true]
    omega
  simp [okT, e1, e2, e3]
theorem okT_kid {t x : Tree} {n d k : Nat} (hl : t.list = true) (hx : t.kids[k]? = some x) (ho : okT x (n + 1 + ((t.kids.take k).map Tree.nodes).sum) (d + 1) = false) : okT t n d = false := by
  cases hq : okT t n d with
  | false => rfl
  | true =>
    obtain ⟨o1, o2, o3⟩ := okT_parts hq
    have hm := List.mem_of_getElem? hx
    have e1 : x.clean = true := by
      rw [Tree.clean_eq, Bool.and_eq_true, List.all_eq_true] at o1
      exact o1.2 x hm
    have e2 : n + 1 + ((t.kids.take k).map Tree.nodes).sum + x.nodes ≤ 512 := by
      rw [Tree.nodes_eq] at o2
      have := sum_upto (l := t.kids) (k := k + 1) Tree.nodes
      rw [sum_at Tree.nodes hx] at this
      omega
    have e3 : x.deep + (d + 1) ≤ 17 := by
      rw [Tree.deep_eq, hl] at o3
      simp only [if_true] at o3
      have : x.deep ≤ most (t.kids.map Tree.deep) := most_le.1 (Nat.le_refl _) _ (List.mem_map.2 ⟨x, hm, rfl⟩)
      omega
    rw [okT, e1, decide_eq_true e2, decide_eq_true e3] at ho
    cases ho
theorem form_list {t : Tree} (hl : t.list = true) : t.form.length = 2 + (t.kids.map Tree.form).flatten.length := by
  rw [Tree.form_eq, hl]
  simp only [if_true, List.length_append, List.length_singleton]
  omega
theorem form_atom {t : Tree} (hl : t.list = false) : t.form.length = (if t.hinted then 2 + (textB t.hint).length else 0) + (textB t.data).length := by
  rw [Tree.form_eq, hl, Tree.atomF]
  simp only [Bool.false_eq_true, if_false, List.length_append]
  split <;> simp only [List.length_append, List.length_singleton, List.length_nil] <;> omega
/-- The count's steps. -/
def rightF (t : Tree) (n s d : Nat) : Bool × Nat × Nat :=
  if 512 < n + 1 then (false, n + 1, s)
  else if t.list then
    if (decide (16 < d) || t.hinted || decide (0 < t.hint.length + t.data.length)) then (false, n + 1, s)
    else t.kids.attach.foldl (fun st x => if st.1 then rightF x.1 st.2.1 st.2.2 (d + 1) else st) (true, n + 1, s + 2)
  else (t.kids.length == 0 && (t.hinted || t.hint.length == 0), n + 1, s + (if t.hinted then 2 + (textB t.hint).length else 0) + (textB t.data).length)
termination_by SizeOf.sizeOf t
decreasing_by exact Tree.kid_lt x.2
def rightK (d : Nat) (st : Bool × Nat × Nat) (x : Tree) : Bool × Nat × Nat := if st.1 then rightF x st.2.1 st.2.2 (d + 1) else st
theorem rightF_eq (t : Tree) (n s d : Nat) : rightF t n s d = if 512 < n + 1 then (false, n + 1, s)
  else if t.list then
    if (decide (16 < d) || t.hinted || decide (0 < t.hint.length + t.data.length)) then (false, n + 1, s)
    else t.kids.foldl (rightK d) (true, n + 1, s + 2)
  else (t.kids.length == 0 && (t.hinted || t.hint.length == 0), n + 1, s + (if t.hinted then 2 + (textB t.hint).length else 0) + (textB t.data).length) := by
  rw [rightF]
  have : t.kids.attach.foldl (fun st x => if st.1 then rightF x.1 st.2.1 st.2.2 (d + 1) else st) (true, n + 1, s + 2) = t.kids.foldl (rightK d) (true, n + 1, s + 2) := by
    conv => rhs; rw [← List.attach_map_subtype_val t.kids, List.foldl_map]
    rfl
  rw [this]
theorem foldl_at {α β : Type} {f : β → α → β} {l : List α} {k : Nat} {x : α} {b : β} (h : l[k]? = some x) : (l.take (k + 1)).foldl f b = f ((l.take k).foldl f b) x := by
  rw [List.take_add_one, h]
  simp
/-- What is told of the count. -/
structure RightOk (t : Tree) (n s d : Nat) : Prop where
  cn : (rightF t n s d).2.1 ≤ 513
  cs : (rightF t n s d).2.2 ≤ s + t.form.length
  ok : (rightF t n s d).1 = okT t n d
  yes : (rightF t n s d).1 = true → (rightF t n s d).2.1 = n + t.nodes ∧ (rightF t n s d).2.2 = s + t.form.length
theorem fair_list {t : Tree} {d : Nat} (hl : t.list = true) : (decide (16 < d) || t.hinted || decide (0 < t.hint.length + t.data.length)) = (decide (16 < d) || !t.fair) := by
  unfold Tree.fair
  rw [hl]
  simp only [if_true]
  rw [Bool.eq_iff_iff]
  have h9 : (0 < t.hint.length + t.data.length) ↔ ¬ (t.hint.length = 0 ∧ t.data.length = 0) := by omega
  cases t.hinted <;> simp only [h9] <;> by_cases h16 : 16 < d <;> by_cases ha : t.hint.length = 0 <;> by_cases hb : t.data.length = 0 <;> simp [h16, ha, hb]
theorem rightF_kids {t : Tree} {n s d : Nat} (hl : t.list = true) (hn : n + 1 ≤ 512) (hd : d ≤ 16) (ih : ∀ x ∈ t.kids, ∀ n s d, n ≤ 512 → d ≤ 17 → RightOk x n s d) : ∀ k, k ≤ t.kids.length →
    let st := (t.kids.take k).foldl (rightK d) (true, n + 1, s + 2)
    st.2.1 ≤ 513 ∧ st.2.2 ≤ s + 2 + ((t.kids.take k).map fun x => x.form.length).sum ∧ (st.1 = true → CInv t n d k ∧ st.2.1 = n + 1 + ((t.kids.take k).map Tree.nodes).sum ∧ st.2.2 = s + 2 + ((t.kids.take k).map fun x => x.form.length).sum) ∧ (st.1 = false → okT t n d = false)
  | 0, _ => by
    refine ⟨by simp; omega, by simp, fun _ => ⟨CInv.zero hn, by simp, by simp⟩, fun h => by cases h⟩
  | k + 1, hk => by
    obtain ⟨x, hx⟩ : ∃ x, t.kids[k]? = some x := ⟨_, List.getElem?_eq_getElem hk⟩
    have h := rightF_kids (n := n) (s := s) (d := d) hl hn hd ih k (by omega)
    intro st
    have hst : st = rightK d ((t.kids.take k).foldl (rightK d) (true, n + 1, s + 2)) x := foldl_at hx
    have hs := sum_at (fun x : Tree => x.form.length) hx
    have hs2 := sum_at Tree.nodes hx
    generalize (t.kids.take k).foldl (rightK d) (true, n + 1, s + 2) = st0 at h hst
    obtain ⟨h1, h2, h3, h4⟩ := h
    rw [hst]
    unfold rightK
    split
    · rename_i hb
      obtain ⟨c1, c2, c3⟩ := h3 hb
      have hr := ih x (List.mem_of_getElem? hx) st0.2.1 st0.2.2 (d + 1) (by rw [c2]; exact c1.2.1) (by omega)
      refine ⟨hr.cn, ?_, fun hy => ?_, fun hf => ?_⟩
      · rw [hs]
        have := hr.cs
        omega
      · obtain ⟨y1, y2⟩ := hr.yes hy
        refine ⟨c1.step hx ?_, by rw [y1, hs2]; omega, by rw [y2, hs]; omega⟩
        rw [← c2, ← hr.ok]
        exact hy
      · refine okT_kid hl hx ?_
        rw [← c2, ← hr.ok]
        exact hf
    · rename_i hb
      refine ⟨h1, ?_, fun hy => absurd hy hb, fun _ => h4 (by simpa using hb)⟩
      show st0.2.2 ≤ _
      rw [hs]
      omega
theorem form_sum {t : Tree} (hl : t.list = true) : t.form.length = 2 + (t.kids.map fun x => x.form.length).sum := by
  rw [form_list hl, List.length_flatten, List.map_map]
  rfl
theorem right_ok : ∀ (t : Tree) (n s d : Nat), n ≤ 512 → d ≤ 17 → RightOk t n s d := Tree.ind fun t ih n s d hn hd => by
  have he := rightF_eq t n s d
  by_cases h1 : 512 < n + 1
  · rw [if_pos h1] at he
    exact ⟨by rw [he]; show n + 1 ≤ 513; omega, by rw [he]; exact Nat.le_add_right _ _, by rw [he, okT_many h1], fun h => by rw [he] at h; cases h⟩
  rw [if_neg h1] at he
  cases hl : t.list with
  | true =>
    rw [hl, if_pos rfl, fair_list hl] at he
    by_cases h2 : (decide (16 < d) || !t.fair) = true
    · rw [if_pos h2] at he
      refine ⟨by rw [he]; show n + 1 ≤ 513; omega, by rw [he]; exact Nat.le_add_right _ _, ?_, fun h => by rw [he] at h; cases h⟩
      rw [he]
      simp only [Bool.or_eq_true, decide_eq_true_eq, Bool.not_eq_true'] at h2
      rcases h2 with h2 | h2
      · rw [okT_deep hl h2]
      · rw [okT_unfair h2]
    · rw [if_neg h2] at he
      simp only [Bool.or_eq_true, decide_eq_true_eq, Bool.not_eq_true', not_or, Bool.not_eq_false] at h2
      have hk := rightF_kids (n := n) (s := s) (d := d) hl (by omega) (by omega) ih t.kids.length (Nat.le_refl _)
      simp only [List.take_length] at hk
      rw [← he] at hk
      obtain ⟨k1, k2, k3, k4⟩ := hk
      have hf := form_sum hl
      refine ⟨k1, by omega, ?_, fun hy => ?_⟩
      · cases hb : (rightF t n s d).1 with
        | false => rw [k4 hb]
        | true => rw [(k3 hb).1.done (Nat.le_refl _) hl h2.2 (by omega)]
      · obtain ⟨c1, c2, c3⟩ := k3 hy
        exact ⟨by rw [c2, Tree.nodes_eq]; omega, by rw [c3, hf]; omega⟩
  | false =>
    rw [hl, if_neg (by simp)] at he
    have hf := form_atom hl
    have hfair : t.fair = (t.kids.length == 0 && (t.hinted || t.hint.length == 0)) := by rw [Tree.fair, hl]; rfl
    rw [← hfair] at he
    refine ⟨by rw [he]; show n + 1 ≤ 513; omega, by rw [he]; show s + _ + _ ≤ _; omega, ?_, fun hy => ?_⟩
    · rw [he]
      show t.fair = _
      cases hb : t.fair with
      | false => rw [okT_unfair hb]
      | true =>
        have hb2 := hb
        rw [hfair, Bool.and_eq_true] at hb2
        rw [okT_atom hl hb (List.eq_nil_of_length_eq_zero (by simpa using hb2.1)) (by omega) hd]
    · rw [he] at hy
      have hy : t.fair = true := hy
      rw [hfair, Bool.and_eq_true] at hy
      have hk : t.kids = [] := List.eq_nil_of_length_eq_zero (by simpa using hy.1)
      rw [he]
      exact ⟨by rw [Tree.nodes_eq, hk]; rfl, by show s + _ + _ = _; omega⟩
theorem may_ok (t : Tree) : t.may = (okT t 0 1 && decide (t.form.length ≤ 4096)) := by
  rw [Tree.may, okT, Nat.zero_add]
  congr 2
  rw [decide_eq_decide]
  omega
theorem rightK_stop {d : Nat} : ∀ (l : List Tree) (st : Bool × Nat × Nat), st.1 = false → l.foldl (rightK d) st = st
  | [], _, _ => rfl
  | x :: l, st, h => by
    have : rightK d st x = st := by simp [rightK, h]
    rw [List.foldl_cons, this, rightK_stop l st h]
theorem rightK_end {d k : Nat} {l : List Tree} {st0 : Bool × Nat × Nat} (h : ((l.take k).foldl (rightK d) st0).1 = false) : l.foldl (rightK d) st0 = (l.take k).foldl (rightK d) st0 := by
  conv => lhs; rw [← List.take_append_drop k l, List.foldl_append]
  exact rightK_stop _ _ h
end Go.Proofs.YtdakeodebgggfaaDoor

/- The program's telling whether a value may be. -/
namespace Go.Proofs.YtdakeodebgggfaaDoor
open Go.RowKit
set_option linter.unusedVariables false
set_option linter.unusedSimpArgs false
set_option maxRecDepth 100000
set_option maxHeartbeats 2000000
@[go_sem] def cntO (n s : Int) : AObj := ⟨71, [.d (.v (.int .i64 n)), .d (.v (.int .i64 s))], true, false⟩
theorem cbytes_m {G : Nat → Option (List D)} (hG : G 0 = some powD) (b : List UInt8) (n s : Int) (hb : b.length ≤ 10000000) (h0 : 0 ≤ s) (hs : s ≤ 1000000000000) :
    SpecO Tryd.prog G 64 [.c (.ptr 0 0), .c (.d (bytesD b))] [(0, cntO n s)] (.ret (.tup []) [(0, some (cntO n (s + (textB b).length)))]) := by
  have hl := textB_len (b := b) (n := 10000000) hb (by omega)
  have he : (textB b).length = (dec b.length).length + 1 + b.length := by simp [textB]; omega
  refine specO_go Tryd.func64 rfl rfl rfl (by kernel_rfl) (by (simp (maxSteps := 10000000) (implicitDefEqProofs := false) only [go_sem, Nat.reduceEqDiff, Nat.reduceBEq, ↓reduceIte, Nat.reduceAdd, Nat.reduceMul, Nat.reduceSub, Nat.reduceLeDiff, Nat.reduceLT, reduceCtorEq, Int.reduceLE, Int.reduceLT, Int.reduceToNat, Int.reduceBEq, true_and]); (try simp (maxSteps := 10000000) (implicitDefEqProofs := false) (disch := omega) only [wrap_id, wrap8, max_r, max_l, min_r, min_l]); (try simp (maxSteps := 10000000) (implicitDefEqProofs := false) only [go_sem, Nat.reduceEqDiff, Nat.reduceBEq, ↓reduceIte, Nat.reduceAdd, Nat.reduceMul, Nat.reduceSub, Nat.reduceLeDiff, Nat.reduceLT, reduceCtorEq, Int.reduceLE, Int.reduceLT, Int.reduceToNat, Int.reduceBEq, true_and])) (by (simp (maxSteps := 10000000) (implicitDefEqProofs := false) only [go_sem, Nat.reduceEqDiff, Nat.reduceBEq, ↓reduceIte, Nat.reduceAdd, Nat.reduceMul, Nat.reduceSub, Nat.reduceLeDiff, Nat.reduceLT, reduceCtorEq, Int.reduceLE, Int.reduceLT, Int.reduceToNat, Int.reduceBEq, List.all_cons, List.all_nil]); (try simp (maxSteps := 10000000) (implicitDefEqProofs := false) (disch := omega) only [wrap_id, wrap8, max_r, max_l, min_r, min_l]); (try simp (maxSteps := 10000000) (implicitDefEqProofs := false) only [go_sem, Nat.reduceEqDiff, Nat.reduceBEq, ↓reduceIte, Nat.reduceAdd, Nat.reduceMul, Nat.reduceSub, Nat.reduceLeDiff, Nat.reduceLT, reduceCtorEq, Int.reduceLE, Int.reduceLT, Int.reduceToNat, Int.reduceBEq, List.all_cons, List.all_nil])) fun K m => ?_
  (repeat' (first | with_reducible refine sound_seq_k fun Kn hK => ?_ | with_reducible refine sound_region (by kernel_rfl) ?_ | with_reducible refine sound_drawn (by kernel_rfl) (by kernel_rfl) ?_ | with_reducible refine sound_block ?_ | with_reducible refine sound_if ?_ | with_reducible refine sound_ret ?_ | with_reducible refine sound_skip ?_ | with_reducible refine sound_exit ?_ | (with_reducible refine hK _ ?_; clear hK; clear Kn) | (clear hK; clear Kn; with_reducible refine hK _ ?_; clear hK; clear Kn) | (clear hK; clear Kn; clear hK; clear Kn; with_reducible refine hK _ ?_; clear hK; clear Kn) | (refine ⟨_, putlen_m hG b.length (by omega), ?_⟩) | refine raw_f ?_ | with_reducible refine ex_bytes ?_ | with_reducible refine loopU_step ?_ | with_reducible refine retO_ret ?_ ?_ | with_reducible refine retO_normal ?_ ?_ | with_reducible refine And.intro (show logOk _ _ = true by kernel_rfl) ?_ | simp (maxSteps := 10000000) (implicitDefEqProofs := false) (disch := omega) only [wrap_id, wrap8, max_r, max_l, min_r, min_l] | (with_reducible refine br_intro (fun hb => ?_) (fun hb => ?_) <;> (try simp only [hb])) | (with_reducible refine And.intro (by first | omega | (simp; done) | (simp; omega)) ?_) | simp (maxSteps := 10000000) (implicitDefEqProofs := false) only [go_sem, Nat.reduceEqDiff, Nat.reduceBEq, ↓reduceIte, Nat.reduceAdd, Nat.reduceMul, Nat.reduceSub, Nat.reduceLeDiff, Nat.reduceLT, reduceCtorEq, Int.reduceLE, Int.reduceLT, Int.reduceToNat, Int.reduceBEq, str_size] | fail))
  (simp only [Option.some.injEq, AObj.mk.injEq, List.cons.injEq, SV.a.injEq, AV.c.injEq, C.d.injEq, D.v.injEq, Value.int.injEq, true_and, and_true]; first | done | omega | (simp; done) | (simp; omega))
theorem right_m {G : Nat → Option (List D)} (hG : G 0 = some powD) : ∀ (t : Tree) (cs : List D) (n s d : Nat), treeC t = cs → t.wt ≤ 10000000 → n ≤ 512 → d ≤ 17 → s + t.form.length ≤ 1000000000 →
    SpecO Tryd.prog G 52 [.c (.ptr 0 0), (DV.g cs).av, .c (.d (.v (.int .i64 d)))] [(0, cntO n s)] (.ret (vB (rightF t n s d).1) [(0, some (cntO (rightF t n s d).2.1 (rightF t n s d).2.2))]) := Tree.ind fun t ih cs n s d hcs hw hn hd hs => by
  subst hcs
  rw [treeC_eq]
  refine specO_go Tryd.func52 rfl rfl rfl (by kernel_rfl) (by (simp (maxSteps := 10000000) (implicitDefEqProofs := false) only [go_sem, Nat.reduceEqDiff, Nat.reduceBEq, ↓reduceIte, Nat.reduceAdd, Nat.reduceMul, Nat.reduceSub, Nat.reduceLeDiff, Nat.reduceLT, reduceCtorEq, Int.reduceLE, Int.reduceLT, Int.reduceToNat, Int.reduceBEq, true_and]); (try simp (maxSteps := 10000000) (implicitDefEqProofs := false) (disch := omega) only [wrap_id, wrap8, max_r, max_l, min_r, min_l]); (try simp (maxSteps := 10000000) (implicitDefEqProofs := false) only [go_sem, Nat.reduceEqDiff, Nat.reduceBEq, ↓reduceIte, Nat.reduceAdd, Nat.reduceMul, Nat.reduceSub, Nat.reduceLeDiff, Nat.reduceLT, reduceCtorEq, Int.reduceLE, Int.reduceLT, Int.reduceToNat, Int.reduceBEq, true_and])) (by (simp (maxSteps := 10000000) (implicitDefEqProofs := false) only [go_sem, Nat.reduceEqDiff, Nat.reduceBEq, ↓reduceIte, Nat.reduceAdd, Nat.reduceMul, Nat.reduceSub, Nat.reduceLeDiff, Nat.reduceLT, reduceCtorEq, Int.reduceLE, Int.reduceLT, Int.reduceToNat, Int.reduceBEq, List.all_cons, List.all_nil]); (try simp (maxSteps := 10000000) (implicitDefEqProofs := false) (disch := omega) only [wrap_id, wrap8, max_r, max_l, min_r, min_l]); (try simp (maxSteps := 10000000) (implicitDefEqProofs := false) only [go_sem, Nat.reduceEqDiff, Nat.reduceBEq, ↓reduceIte, Nat.reduceAdd, Nat.reduceMul, Nat.reduceSub, Nat.reduceLeDiff, Nat.reduceLT, reduceCtorEq, Int.reduceLE, Int.reduceLT, Int.reduceToNat, Int.reduceBEq, List.all_cons, List.all_nil])) fun K m => ?_
  have hlh := t.wt_hint
  have hld := t.wt_data
  have hlk := t.wt_kids
  have hth := textB_len (b := t.hint) (n := 10000000) (by omega) (by omega)
  have he := rightF_eq t n s d
  by_cases h1 : 512 < n + 1
  · rw [if_pos h1] at he
    rw [he]
    have d1 : decide ((512 : Int) < (n : Int) + 1) = true := decide_eq_true (by omega)
    (repeat' (first | with_reducible refine sound_seq_k fun Kn hK => ?_ | with_reducible refine sound_region (by kernel_rfl) ?_ | with_reducible refine sound_drawn (by kernel_rfl) (by kernel_rfl) ?_ | with_reducible refine sound_block ?_ | with_reducible refine sound_if ?_ | with_reducible refine sound_ret ?_ | with_reducible refine sound_skip ?_ | with_reducible refine sound_exit ?_ | (with_reducible refine hK _ ?_; clear hK; clear Kn) | (clear hK; clear Kn; with_reducible refine hK _ ?_; clear hK; clear Kn) | (clear hK; clear Kn; clear hK; clear Kn; with_reducible refine hK _ ?_; clear hK; clear Kn) | refine raw_f ?_ | with_reducible refine ex_bytes ?_ | with_reducible refine loopU_step ?_ | with_reducible refine retO_ret ?_ ?_ | with_reducible refine retO_normal ?_ ?_ | with_reducible refine And.intro (show logOk _ _ = true by kernel_rfl) ?_ | simp (maxSteps := 10000000) (implicitDefEqProofs := false) (disch := omega) only [wrap_id, wrap8, max_r, max_l, min_r, min_l] | (with_reducible refine br_intro (fun hb => ?_) (fun hb => ?_) <;> (try simp only [hb])) | (with_reducible refine And.intro (by first | omega | (simp; done) | (simp; omega)) ?_) | simp (maxSteps := 10000000) (implicitDefEqProofs := false) only [go_sem, Nat.reduceEqDiff, Nat.reduceBEq, ↓reduceIte, Nat.reduceAdd, Nat.reduceMul, Nat.reduceSub, Nat.reduceLeDiff, Nat.reduceLT, reduceCtorEq, Int.reduceLE, Int.reduceLT, Int.reduceToNat, Int.reduceBEq, d1, gt_iff_lt] | fail))
    (simp only [Option.some.injEq, AObj.mk.injEq, List.cons.injEq, SV.a.injEq, AV.c.injEq, C.d.injEq, D.v.injEq, Value.int.injEq, true_and, and_true]; first | done | omega | (simp; done) | (simp; omega))
  have d1 : decide ((512 : Int) < (n : Int) + 1) = false := decide_eq_false (by omega)
  rw [if_neg h1] at he
  cases hl : t.list with
  | false =>
    rw [hl, if_neg (by simp)] at he
    rw [he]
    have hf := form_atom hl
    cases hh : t.hinted with
    | false =>
      rw [hh] at hf
      (repeat' (first | with_reducible refine sound_seq_k fun Kn hK => ?_ | with_reducible refine sound_region (by kernel_rfl) ?_ | with_reducible refine sound_drawn (by kernel_rfl) (by kernel_rfl) ?_ | with_reducible refine sound_block ?_ | with_reducible refine sound_if ?_ | with_reducible refine sound_ret ?_ | with_reducible refine sound_skip ?_ | with_reducible refine sound_exit ?_ | (with_reducible refine hK _ ?_; clear hK; clear Kn) | (clear hK; clear Kn; with_reducible refine hK _ ?_; clear hK; clear Kn) | (clear hK; clear Kn; clear hK; clear Kn; with_reducible refine hK _ ?_; clear hK; clear Kn) | (refine ⟨some [0], ?_⟩) | (refine ⟨_, cbytes_m hG t.data _ _ (by omega) (by omega) (by omega), ?_⟩) | refine raw_f ?_ | with_reducible refine ex_bytes ?_ | with_reducible refine loopU_step ?_ | with_reducible refine retO_ret ?_ ?_ | with_reducible refine retO_normal ?_ ?_ | with_reducible refine And.intro (show logOk _ _ = true by kernel_rfl) ?_ | simp (maxSteps := 10000000) (implicitDefEqProofs := false) (disch := omega) only [wrap_id, wrap8, max_r, max_l, min_r, min_l] | (with_reducible refine br_intro (fun hb => ?_) (fun hb => ?_) <;> (try simp only [hb])) | (with_reducible refine And.intro (by first | omega | (simp; done) | (simp; omega)) ?_) | simp (maxSteps := 10000000) (implicitDefEqProofs := false) only [go_sem, Nat.reduceEqDiff, Nat.reduceBEq, ↓reduceIte, Nat.reduceAdd, Nat.reduceMul, Nat.reduceSub, Nat.reduceLeDiff, Nat.reduceLT, reduceCtorEq, Int.reduceLE, Int.reduceLT, Int.reduceToNat, Int.reduceBEq, d1, hl, hh, gt_iff_lt, int_beq0] | fail))
      all_goals first | (simp only [Option.some.injEq, AObj.mk.injEq, List.cons.injEq, SV.a.injEq, AV.c.injEq, C.d.injEq, D.v.injEq, Value.int.injEq, true_and, and_true]; first | done | omega | (simp; done) | (simp; omega)) | rfl | (simp only [*]; rfl) | (simp [*]; done)
    | true =>
      rw [hh] at hf
      (repeat' (first | with_reducible refine sound_seq_k fun Kn hK => ?_ | with_reducible refine sound_region (by kernel_rfl) ?_ | with_reducible refine sound_drawn (by kernel_rfl) (by kernel_rfl) ?_ | with_reducible refine sound_block ?_ | with_reducible refine sound_if ?_ | with_reducible refine sound_ret ?_ | with_reducible refine sound_skip ?_ | with_reducible refine sound_exit ?_ | (with_reducible refine hK _ ?_; clear hK; clear Kn) | (clear hK; clear Kn; with_reducible refine hK _ ?_; clear hK; clear Kn) | (clear hK; clear Kn; clear hK; clear Kn; with_reducible refine hK _ ?_; clear hK; clear Kn) | (refine ⟨some [0], ?_⟩) | (refine ⟨_, cbytes_m hG t.hint _ _ (by omega) (by omega) (by omega), ?_⟩) | (refine ⟨_, cbytes_m hG t.data _ _ (by omega) (by omega) (by omega), ?_⟩) | refine raw_f ?_ | with_reducible refine ex_bytes ?_ | with_reducible refine loopU_step ?_ | with_reducible refine retO_ret ?_ ?_ | with_reducible refine retO_normal ?_ ?_ | with_reducible refine And.intro (show logOk _ _ = true by kernel_rfl) ?_ | simp (maxSteps := 10000000) (implicitDefEqProofs := false) (disch := omega) only [wrap_id, wrap8, max_r, max_l, min_r, min_l] | (with_reducible refine br_intro (fun hb => ?_) (fun hb => ?_) <;> (try simp only [hb])) | (with_reducible refine And.intro (by first | omega | (simp; done) | (simp; omega)) ?_) | simp (maxSteps := 10000000) (implicitDefEqProofs := false) only [go_sem, Nat.reduceEqDiff, Nat.reduceBEq, ↓reduceIte, Nat.reduceAdd, Nat.reduceMul, Nat.reduceSub, Nat.reduceLeDiff, Nat.reduceLT, reduceCtorEq, Int.reduceLE, Int.reduceLT, Int.reduceToNat, Int.reduceBEq, d1, hl, hh, gt_iff_lt, int_beq0] | fail))
      all_goals first | (simp only [Option.some.injEq, AObj.mk.injEq, List.cons.injEq, SV.a.injEq, AV.c.injEq, C.d.injEq, D.v.injEq, Value.int.injEq, true_and, and_true]; first | done | omega | (simp; done) | (simp; omega)) | rfl | (simp only [*]; rfl) | (simp [*]; done)
  | true =>
    rw [hl, if_pos rfl] at he
    have hfs := form_sum hl
    by_cases h2 : (decide (16 < d) || t.hinted || decide (0 < t.hint.length + t.data.length)) = true
    · rw [if_pos h2] at he
      rw [he]
      have e1 : decide ((16 : Int) < (d : Int)) = decide (16 < d) := by rw [decide_eq_decide]; omega
      have e2 : decide ((0 : Int) < (t.hint.length : Int) + (t.data.length : Int)) = decide (0 < t.hint.length + t.data.length) := by rw [decide_eq_decide]; omega
      refine sound_seq_k fun Kn hK => ?_
      (repeat' (first | with_reducible refine sound_seq_k fun Kn hK => ?_ | with_reducible refine sound_region (by kernel_rfl) ?_ | with_reducible refine sound_drawn (by kernel_rfl) (by kernel_rfl) ?_ | with_reducible refine sound_block ?_ | with_reducible refine sound_if ?_ | with_reducible refine sound_ret ?_ | with_reducible refine sound_skip ?_ | with_reducible refine sound_exit ?_ | (with_reducible refine hK _ ?_; clear hK; clear Kn) | (clear hK; clear Kn; with_reducible refine hK _ ?_; clear hK; clear Kn) | (clear hK; clear Kn; clear hK; clear Kn; with_reducible refine hK _ ?_; clear hK; clear Kn) | refine raw_f ?_ | with_reducible refine ex_bytes ?_ | with_reducible refine loopU_step ?_ | with_reducible refine retO_ret ?_ ?_ | with_reducible refine retO_normal ?_ ?_ | with_reducible refine And.intro (show logOk _ _ = true by kernel_rfl) ?_ | simp (maxSteps := 10000000) (implicitDefEqProofs := false) (disch := omega) only [wrap_id, wrap8, max_r, max_l, min_r, min_l] | (with_reducible refine br_intro (fun hb => ?_) (fun hb => ?_) <;> (try simp only [hb])) | (with_reducible refine And.intro (by first | omega | (simp; done) | (simp; omega)) ?_) | simp (maxSteps := 10000000) (implicitDefEqProofs := false) only [go_sem, Nat.reduceEqDiff, Nat.reduceBEq, ↓reduceIte, Nat.reduceAdd, Nat.reduceMul, Nat.reduceSub, Nat.reduceLeDiff, Nat.reduceLT, reduceCtorEq, Int.reduceLE, Int.reduceLT, Int.reduceToNat, Int.reduceBEq, d1, hl, gt_iff_lt, e1, e2] | fail))
      all_goals first | (simp only [Option.some.injEq, AObj.mk.injEq, List.cons.injEq, SV.a.injEq, AV.c.injEq, C.d.injEq, D.v.injEq, Value.int.injEq, true_and, and_true]; first | done | omega | (simp; done) | (simp; omega)) | rfl | (exfalso; revert h2; simp only [*]; simp; done)
    · rw [if_neg h2] at he
      simp only [Bool.or_eq_true, decide_eq_true_eq, not_or, Bool.not_eq_true] at h2
      obtain ⟨⟨h3, h4⟩, h5⟩ := h2
      have e1 : decide ((16 : Int) < (d : Int)) = false := decide_eq_false (by omega)
      have e2 : decide ((0 : Int) < (t.hint.length : Int) + (t.data.length : Int)) = false := decide_eq_false (by omega)
      have hr := rightF_kids (n := n) (s := s) (d := d) hl (by omega) (by omega) (fun x hx n s d => right_ok x n s d)
      (repeat' (first | with_reducible refine sound_seq_k fun Kn hK => ?_ | with_reducible refine sound_region (by kernel_rfl) ?_ | with_reducible refine sound_drawn (by kernel_rfl) (by kernel_rfl) ?_ | with_reducible refine sound_block ?_ | with_reducible refine sound_if ?_ | with_reducible refine sound_ret ?_ | with_reducible refine sound_skip ?_ | with_reducible refine sound_exit ?_ | (with_reducible refine hK _ ?_; clear hK; clear Kn) | (clear hK; clear Kn; with_reducible refine hK _ ?_; clear hK; clear Kn) | (clear hK; clear Kn; clear hK; clear Kn; with_reducible refine hK _ ?_; clear hK; clear Kn) | refine raw_f ?_ | with_reducible refine ex_bytes ?_ | with_reducible refine loopU_step ?_ | with_reducible refine retO_ret ?_ ?_ | with_reducible refine retO_normal ?_ ?_ | with_reducible refine And.intro (show logOk _ _ = true by kernel_rfl) ?_ | simp (maxSteps := 10000000) (implicitDefEqProofs := false) (disch := omega) only [wrap_id, wrap8, max_r, max_l, min_r, min_l] | (with_reducible refine br_intro (fun hb => ?_) (fun hb => ?_) <;> (try simp only [hb])) | (with_reducible refine And.intro (by first | omega | (simp; done) | (simp; omega)) ?_) | simp (maxSteps := 10000000) (implicitDefEqProofs := false) only [go_sem, Nat.reduceEqDiff, Nat.reduceBEq, ↓reduceIte, Nat.reduceAdd, Nat.reduceMul, Nat.reduceSub, Nat.reduceLeDiff, Nat.reduceLT, reduceCtorEq, Int.reduceLE, Int.reduceLT, Int.reduceToNat, Int.reduceBEq, d1, hl, h4, gt_iff_lt, e1, e2] | fail))
      refine sound_loopR (fun x : {k : Nat // k ≤ t.kids.length ∧ ((t.kids.take k).foldl (rightK d) (true, n + 1, s + 2)).1 = true} => ⟨[(0, vP 0 0), (2, vI d), (79, vD (.sl t.kids.length (t.kids.flatMap treeC))), (80, vI t.kids.length), (81, vI x.1)],
        [(0, some (cntO ((t.kids.take x.1).foldl (rightK d) (true, n + 1, s + 2)).2.1 ((t.kids.take x.1).foldl (rightK d) (true, n + 1, s + 2)).2.2))]⟩) (fun x => t.kids.length - x.1) ⟨0, by simp⟩ [] (by (simp (maxSteps := 10000000) (implicitDefEqProofs := false) only [go_sem, Nat.reduceEqDiff, Nat.reduceBEq, ↓reduceIte, Nat.reduceAdd, Nat.reduceMul, Nat.reduceSub, Nat.reduceLeDiff, Nat.reduceLT, reduceCtorEq, Int.reduceLE, Int.reduceLT, Int.reduceToNat, Int.reduceBEq, hl]); (try simp (maxSteps := 10000000) (implicitDefEqProofs := false) (disch := omega) only [wrap_id, wrap8, max_r, max_l, min_r, min_l]); (try simp (maxSteps := 10000000) (implicitDefEqProofs := false) only [go_sem, Nat.reduceEqDiff, Nat.reduceBEq, ↓reduceIte, Nat.reduceAdd, Nat.reduceMul, Nat.reduceSub, Nat.reduceLeDiff, Nat.reduceLT, reduceCtorEq, Int.reduceLE, Int.reduceLT, Int.reduceToNat, Int.reduceBEq, hl]); try (simp only [Option.some.injEq, AObj.mk.injEq, List.cons.injEq, SV.a.injEq, AV.c.injEq, C.d.injEq, D.v.injEq, Value.int.injEq, true_and, and_true]; first | done | omega | (simp; done) | (simp; omega))) (fun ⟨k, hk, hall⟩ => ?_)
      obtain ⟨b1, b2, b3, _⟩ := hr k hk
      obtain ⟨b3, b4, b5⟩ := b3 hall
      have b6 := b3.2.1
      have b7 := sum_upto (l := t.kids) (k := k) fun x : Tree => x.form.length
      by_cases hlt : k < t.kids.length
      · obtain ⟨x, hx⟩ : ∃ x, t.kids[k]? = some x := ⟨_, List.getElem?_eq_getElem hlt⟩
        have hb : decide ((k : Int) < (t.kids.length : Int)) = true := by simpa using hlt
        have hm := List.mem_of_getElem? hx
        have b8 := sum_at (fun x : Tree => x.form.length) hx
        have b9 := sum_upto (l := t.kids) (k := k + 1) fun x : Tree => x.form.length
        have hst := foldl_at (f := rightK d) (b := (true, n + 1, s + 2)) hx
        have hend := rightK_end (d := d) (k := k + 1) (l := t.kids) (st0 := (true, n + 1, s + 2))
        rw [hst] at hend
        rw [rightK, if_pos hall] at hst hend
        (repeat' (first | with_reducible refine sound_seq_k fun Kn hK => ?_ | with_reducible refine sound_region (by kernel_rfl) ?_ | with_reducible refine sound_drawn (by kernel_rfl) (by kernel_rfl) ?_ | with_reducible refine sound_block ?_ | with_reducible refine sound_if ?_ | with_reducible refine sound_ret ?_ | with_reducible refine sound_skip ?_ | with_reducible refine sound_exit ?_ | (with_reducible refine hK _ ?_; clear hK; clear Kn) | (clear hK; clear Kn; with_reducible refine hK _ ?_; clear hK; clear Kn) | (clear hK; clear Kn; clear hK; clear Kn; with_reducible refine hK _ ?_; clear hK; clear Kn) | (refine ⟨some [0], ?_⟩) | (refine ⟨_, ih x hm _ _ _ (d + 1) rfl (by have := Tree.wt_kid hm; omega) (by omega) (by omega) (by omega), ?_⟩) | refine raw_f ?_ | with_reducible refine ex_bytes ?_ | with_reducible refine loopU_step ?_ | with_reducible refine retO_ret ?_ ?_ | with_reducible refine retO_normal ?_ ?_ | with_reducible refine And.intro (show logOk _ _ = true by kernel_rfl) ?_ | simp (maxSteps := 10000000) (implicitDefEqProofs := false) (disch := omega) only [wrap_id, wrap8, max_r, max_l, min_r, min_l] | (with_reducible refine br_intro (fun hb => ?_) (fun hb => ?_) <;> (try simp only [hb])) | (with_reducible refine And.intro (by first | omega | (simp; done) | (simp; omega)) ?_) | simp (maxSteps := 10000000) (implicitDefEqProofs := false) only [go_sem, Nat.reduceEqDiff, Nat.reduceBEq, ↓reduceIte, Nat.reduceAdd, Nat.reduceMul, Nat.reduceSub, Nat.reduceLeDiff, Nat.reduceLT, reduceCtorEq, Int.reduceLE, Int.reduceLT, Int.reduceToNat, Int.reduceBEq, hb, flat_at treeC_len hx, List.length_map, treeC_len] | fail))
        · refine ⟨[], ⟨k + 1, hlt, by rw [hst]; assumption⟩, ?_⟩
          (simp (maxSteps := 10000000) (implicitDefEqProofs := false) only [go_sem, Nat.reduceEqDiff, Nat.reduceBEq, ↓reduceIte, Nat.reduceAdd, Nat.reduceMul, Nat.reduceSub, Nat.reduceLeDiff, Nat.reduceLT, reduceCtorEq, Int.reduceLE, Int.reduceLT, Int.reduceToNat, Int.reduceBEq, hst]); (try simp (maxSteps := 10000000) (implicitDefEqProofs := false) (disch := omega) only [wrap_id, wrap8, max_r, max_l, min_r, min_l]); (try simp (maxSteps := 10000000) (implicitDefEqProofs := false) only [go_sem, Nat.reduceEqDiff, Nat.reduceBEq, ↓reduceIte, Nat.reduceAdd, Nat.reduceMul, Nat.reduceSub, Nat.reduceLeDiff, Nat.reduceLT, reduceCtorEq, Int.reduceLE, Int.reduceLT, Int.reduceToNat, Int.reduceBEq, hst])
          try (simp only [SV.a.injEq, AV.c.injEq, C.d.injEq, D.v.injEq, Value.int.injEq, true_and, and_true, DR.one.injEq, DV.c.injEq, OutO.ret.injEq]; first | done | omega | (split <;> omega) | (simp; done) | (simp; omega))
        all_goals
          rw [he, hend (by assumption)]
          try rw [hb]
      · have hb : decide ((k : Int) < (t.kids.length : Int)) = false := by simpa using hlt
        obtain rfl : k = t.kids.length := by omega
        rw [List.take_length] at hall
        (repeat' (first | with_reducible refine sound_seq_k fun Kn hK => ?_ | with_reducible refine sound_region (by kernel_rfl) ?_ | with_reducible refine sound_drawn (by kernel_rfl) (by kernel_rfl) ?_ | with_reducible refine sound_block ?_ | with_reducible refine sound_if ?_ | with_reducible refine sound_ret ?_ | with_reducible refine sound_skip ?_ | with_reducible refine sound_exit ?_ | (with_reducible refine hK _ ?_; clear hK; clear Kn) | (clear hK; clear Kn; with_reducible refine hK _ ?_; clear hK; clear Kn) | (clear hK; clear Kn; clear hK; clear Kn; with_reducible refine hK _ ?_; clear hK; clear Kn) | refine raw_f ?_ | with_reducible refine ex_bytes ?_ | with_reducible refine loopU_step ?_ | with_reducible refine retO_ret ?_ ?_ | with_reducible refine retO_normal ?_ ?_ | with_reducible refine And.intro (show logOk _ _ = true by kernel_rfl) ?_ | simp (maxSteps := 10000000) (implicitDefEqProofs := false) (disch := omega) only [wrap_id, wrap8, max_r, max_l, min_r, min_l] | (with_reducible refine br_intro (fun hb => ?_) (fun hb => ?_) <;> (try simp only [hb])) | (with_reducible refine And.intro (by first | omega | (simp; done) | (simp; omega)) ?_) | simp (maxSteps := 10000000) (implicitDefEqProofs := false) only [go_sem, Nat.reduceEqDiff, Nat.reduceBEq, ↓reduceIte, Nat.reduceAdd, Nat.reduceMul, Nat.reduceSub, Nat.reduceLeDiff, Nat.reduceLT, reduceCtorEq, Int.reduceLE, Int.reduceLT, Int.reduceToNat, Int.reduceBEq, hb, hall, List.take_length] | fail))
        all_goals (rw [he]; try rw [hall])
theorem sxmay_m {G : Nat → Option (List D)} (hG : G 0 = some powD) (t : Tree) {cs : List D} (hcs : treeC t = cs) (hw : t.wt ≤ 10000000) : Spec Tryd.prog G 37 [.g cs] (.one (.c (.v (.bool t.may)))) := by
  have hf := Tree.form_wt t hw
  have hr := right_ok t 0 0 1 (by omega) (by omega)
  have hm := may_ok t
  have h1 := right_m hG t cs 0 0 1 hcs hw (by omega) (by omega) (by omega)
  subst hcs
  rw [hr.ok] at h1
  have hy := hr.yes
  rw [hr.ok, Nat.zero_add, Nat.zero_add] at hy
  have e1 : okT t 0 1 = true → decide (((rightF t 0 0 1).2.2 : Int) ≤ 4096) = decide (t.form.length ≤ 4096) := fun h => by
    rw [decide_eq_decide, (hy h).2]
    omega
  rw [treeC_eq] at h1 ⊢
  refine spec_of Tryd.func37 rfl rfl rfl (by kernel_rfl) rfl fun K => ?_
  cases hb : okT t 0 1 with
  | true =>
    rw [hb] at h1
    have e1 := e1 hb
    (repeat' (first | with_reducible refine sound_seq_k fun Kn hK => ?_ | with_reducible refine sound_region (by kernel_rfl) ?_ | with_reducible refine sound_drawn (by kernel_rfl) (by kernel_rfl) ?_ | with_reducible refine sound_block ?_ | with_reducible refine sound_if ?_ | with_reducible refine sound_ret ?_ | with_reducible refine sound_skip ?_ | with_reducible refine sound_exit ?_ | (with_reducible refine hK _ ?_; clear hK; clear Kn) | (clear hK; clear Kn; with_reducible refine hK _ ?_; clear hK; clear Kn) | (clear hK; clear Kn; clear hK; clear Kn; with_reducible refine hK _ ?_; clear hK; clear Kn) | (refine ⟨some [0], ?_⟩) | (refine ⟨_, h1, ?_⟩) | with_reducible refine ex_bytes ?_ | with_reducible refine loopU_step ?_ | with_reducible refine retO_ret ?_ ?_ | with_reducible refine retO_normal ?_ ?_ | with_reducible refine And.intro (show logOk _ _ = true by kernel_rfl) ?_ | simp (maxSteps := 10000000) (implicitDefEqProofs := false) (disch := omega) only [wrap_id, wrap8, max_r, max_l, min_r, min_l] | (with_reducible refine br_intro (fun hb => ?_) (fun hb => ?_) <;> (try simp only [hb])) | (with_reducible refine And.intro (by first | omega | (simp; done) | (simp; omega)) ?_) | simp (maxSteps := 10000000) (implicitDefEqProofs := false) only [go_sem, Nat.reduceEqDiff, Nat.reduceBEq, ↓reduceIte, Nat.reduceAdd, Nat.reduceMul, Nat.reduceSub, Nat.reduceLeDiff, Nat.reduceLT, reduceCtorEq, Int.reduceLE, Int.reduceLT, Int.reduceToNat, Int.reduceBEq, e1] | fail))
    rw [hm, hb]
    rfl
  | false =>
    rw [hb] at h1
    (repeat' (first | with_reducible refine sound_seq_k fun Kn hK => ?_ | with_reducible refine sound_region (by kernel_rfl) ?_ | with_reducible refine sound_drawn (by kernel_rfl) (by kernel_rfl) ?_ | with_reducible refine sound_block ?_ | with_reducible refine sound_if ?_ | with_reducible refine sound_ret ?_ | with_reducible refine sound_skip ?_ | with_reducible refine sound_exit ?_ | (with_reducible refine hK _ ?_; clear hK; clear Kn) | (clear hK; clear Kn; with_reducible refine hK _ ?_; clear hK; clear Kn) | (clear hK; clear Kn; clear hK; clear Kn; with_reducible refine hK _ ?_; clear hK; clear Kn) | (refine ⟨some [0], ?_⟩) | (refine ⟨_, h1, ?_⟩) | with_reducible refine ex_bytes ?_ | with_reducible refine loopU_step ?_ | with_reducible refine retO_ret ?_ ?_ | with_reducible refine retO_normal ?_ ?_ | with_reducible refine And.intro (show logOk _ _ = true by kernel_rfl) ?_ | simp (maxSteps := 10000000) (implicitDefEqProofs := false) (disch := omega) only [wrap_id, wrap8, max_r, max_l, min_r, min_l] | (with_reducible refine br_intro (fun hb => ?_) (fun hb => ?_) <;> (try simp only [hb])) | (with_reducible refine And.intro (by first | omega | (simp; done) | (simp; omega)) ?_) | simp (maxSteps := 10000000) (implicitDefEqProofs := false) only [go_sem, Nat.reduceEqDiff, Nat.reduceBEq, ↓reduceIte, Nat.reduceAdd, Nat.reduceMul, Nat.reduceSub, Nat.reduceLeDiff, Nat.reduceLT, reduceCtorEq, Int.reduceLE, Int.reduceLT, Int.reduceToNat, Int.reduceBEq, true_and] | fail))
    rw [hm, hb]
    rfl
end Go.Proofs.YtdakeodebgggfaaDoor

/- The program: bytes put with their length; a value's form. -/
namespace Go.Proofs.YtdakeodebgggfaaDoor
open Go.RowKit
set_option linter.unusedVariables false
set_option linter.unusedSimpArgs false
set_option maxRecDepth 100000
set_option maxHeartbeats 2000000
@[go_sem] def rowB (x : List UInt8) : AObj := ⟨5, (x.map bD).map C.d, false, false⟩
theorem put_m {G : Nat → Option (List D)} (hG : G 0 = some powD) (x b : List UInt8) (n : Nat) (hn : x.length = n) (hx : n ≤ 1000000000) (hb : b.length ≤ 10000000) :
    SpecO Tryd.prog G 55 [.c (.row 0 1 0 n .grow), .c (.d (bytesD b))] [(0, rowB x)] (.ret (vR 15 1 (n + (textB b).length)) [(0, none), (15, some (rowB (x ++ textB b)))]) := by
  have hl := textB_len (b := b) (n := 10000000) hb (by omega)
  have he : (textB b).length = (dec b.length).length + 1 + b.length := by simp [textB]; omega
  have e1 : rowB (x ++ textB b) = ⟨5, (x.map bD).map C.d ++ (dec b.length).map (fun b => C.d (bD b)) ++ [.d (.v (.int .u8 58))] ++ (b.map bD).map C.d, false, false⟩ := by
    simp [rowB, textB, bD]
  have e2 : n + (textB b).length = n + (dec b.length).length + 1 + b.length := by omega
  rw [e1, e2]
  refine specO_go Tryd.func55 rfl rfl rfl (by kernel_rfl) (by (simp (maxSteps := 10000000) (implicitDefEqProofs := false) only [go_sem, Nat.reduceEqDiff, Nat.reduceBEq, ↓reduceIte, Nat.reduceAdd, Nat.reduceMul, Nat.reduceSub, Nat.reduceLeDiff, Nat.reduceLT, reduceCtorEq, Int.reduceLE, Int.reduceLT, Int.reduceToNat, Int.reduceBEq, true_and]); (try simp (maxSteps := 10000000) (implicitDefEqProofs := false) (disch := omega) only [wrap_id, wrap8, max_r, max_l, min_r, min_l]); (try simp (maxSteps := 10000000) (implicitDefEqProofs := false) only [go_sem, Nat.reduceEqDiff, Nat.reduceBEq, ↓reduceIte, Nat.reduceAdd, Nat.reduceMul, Nat.reduceSub, Nat.reduceLeDiff, Nat.reduceLT, reduceCtorEq, Int.reduceLE, Int.reduceLT, Int.reduceToNat, Int.reduceBEq, true_and])) (by (simp (maxSteps := 10000000) (implicitDefEqProofs := false) only [go_sem, Nat.reduceEqDiff, Nat.reduceBEq, ↓reduceIte, Nat.reduceAdd, Nat.reduceMul, Nat.reduceSub, Nat.reduceLeDiff, Nat.reduceLT, reduceCtorEq, Int.reduceLE, Int.reduceLT, Int.reduceToNat, Int.reduceBEq, List.all_cons, List.all_nil]); (try simp (maxSteps := 10000000) (implicitDefEqProofs := false) (disch := omega) only [wrap_id, wrap8, max_r, max_l, min_r, min_l]); (try simp (maxSteps := 10000000) (implicitDefEqProofs := false) only [go_sem, Nat.reduceEqDiff, Nat.reduceBEq, ↓reduceIte, Nat.reduceAdd, Nat.reduceMul, Nat.reduceSub, Nat.reduceLeDiff, Nat.reduceLT, reduceCtorEq, Int.reduceLE, Int.reduceLT, Int.reduceToNat, Int.reduceBEq, List.all_cons, List.all_nil])) fun K m => ?_
  (repeat' (first | with_reducible refine sound_seq_k fun Kn hK => ?_ | with_reducible refine sound_region (by kernel_rfl) ?_ | with_reducible refine sound_drawn (by kernel_rfl) (by kernel_rfl) ?_ | with_reducible refine sound_block ?_ | with_reducible refine sound_if ?_ | with_reducible refine sound_ret ?_ | with_reducible refine sound_skip ?_ | with_reducible refine sound_exit ?_ | (with_reducible refine hK _ ?_; clear hK; clear Kn) | (clear hK; clear Kn; with_reducible refine hK _ ?_; clear hK; clear Kn) | (clear hK; clear Kn; clear hK; clear Kn; with_reducible refine hK _ ?_; clear hK; clear Kn) | (refine ⟨_, putlen_m hG b.length (by omega), ?_⟩) | refine raw_t (by rfl) (by rfl) (by rfl) | with_reducible refine ex_bytes ?_ | with_reducible refine loopU_step ?_ | with_reducible refine retO_ret ?_ ?_ | with_reducible refine retO_normal ?_ ?_ | with_reducible refine And.intro (show logOk _ _ = true by kernel_rfl) ?_ | simp (maxSteps := 10000000) (implicitDefEqProofs := false) (disch := omega) only [wrap_id, wrap8, max_r, max_l, min_r, min_l] | (with_reducible refine br_intro (fun hb => ?_) (fun hb => ?_) <;> (try simp only [hb])) | (with_reducible refine And.intro (by first | omega | (simp; done) | (simp; omega)) ?_) | simp (maxSteps := 10000000) (implicitDefEqProofs := false) only [go_sem, Nat.reduceEqDiff, Nat.reduceBEq, ↓reduceIte, Nat.reduceAdd, Nat.reduceMul, Nat.reduceSub, Nat.reduceLeDiff, Nat.reduceLT, reduceCtorEq, Int.reduceLE, Int.reduceLT, Int.reduceToNat, Int.reduceBEq, str_size, List.length_map, hn] | fail))
/-- The address of a value: of one that is a list's, or stands alone. -/
def Ptr5 (d : D) (x : Tree) : Prop := ∃ cs off, d = .ptr cs off ∧ (cs.drop off).take 5 = treeC x
def TodoOk (p : D × Option Tree) : Prop := match p.2 with
  | none => p.1 = .v (.pointer none)
  | some x => Ptr5 p.1 x
def formO : Option Tree → List UInt8
  | none => [41]
  | some x => x.form
def costO : Option Tree → Nat
  | none => 1
  | some x => 2 * x.nodes
theorem ptr_cells {cs : List D} {off : Nat} {x : Tree} (h : (cs.drop off).take 5 = treeC x) : cs[off]? = some (.v (.bool x.list)) ∧ cs[off + 1]? = some (.v (.bool x.hinted)) ∧ cs[off + 2]? = some (bytesD x.hint) ∧ cs[off + 3]? = some (bytesD x.data) ∧ cs[off + 4]? = some (.sl x.kids.length (x.kids.flatMap treeC)) := by
  rw [treeC_eq] at h
  have key : ∀ i, i < 5 → cs[off + i]? = ((cs.drop off).take 5)[i]? := fun i hi => by rw [List.getElem?_take, if_pos hi, List.getElem?_drop]
  refine ⟨?_, ?_, ?_, ?_, ?_⟩
  · have := key 0 (by omega)
    rw [Nat.add_zero, h] at this
    exact this
  all_goals (rw [key _ (by omega), h]; rfl)
theorem form_pos (x : Tree) : 1 ≤ x.form.length := by
  rw [x.form_eq]
  split
  · simp
  · simp [Tree.atomF, textB]
    omega
structure PutX (t : Tree) where
  o : List UInt8
  st : List (D × Option Tree)
  ok : ∀ p ∈ st, TodoOk p
  whole : o ++ (st.flatMap fun p => formO p.2) = t.form
def todoD (st : List (D × Option Tree)) : List D := (st.map (·.1)).reverse
theorem todoD_len (st : List (D × Option Tree)) : (todoD st).length = st.length := by simp [todoD]
def PutX.cost {t : Tree} (x : PutX t) : Nat := (x.st.map fun p => costO p.2).sum
theorem PutX.len {t : Tree} (x : PutX t) : x.st.length + x.o.length ≤ t.form.length := by
  have h : ∀ l : List (D × Option Tree), l.length ≤ (l.flatMap fun p => formO p.2).length := by
    intro l
    induction l with
    | nil => simp
    | cons p l ih =>
      rw [List.flatMap_cons, List.length_append, List.length_cons]
      have : 1 ≤ (formO p.2).length := by
        cases hp : p.2 with
        | none => simp [formO]
        | some y => exact form_pos y
      omega
  have h1 := h x.st
  rw [← x.whole, List.length_append]
  omega
theorem sound_popped {P : Program} {G : Nat → Option (List D)} {K : Ctx G} {F : Fr} {Qx : Exit → FSt → Prop} {s : FSt} {c : Code} (t r sz n k : Nat) (ty : TypeId) (cs : List C) (hs : s.sl t = vR r sz n) (ho : s.ob r = some (some ⟨ty, cs, false, false⟩)) (h : Sound P K F c Qx ⟨s.sl, upd s.ob r (some (some ⟨ty, cs.take k, false, false⟩))⟩) : Sound P K F c Qx s := sound_trim r k ho h
def pushK (l : List Tree) : List (D × Option Tree) := l.zipIdx.map fun p => (D.ptr (l.flatMap treeC) (p.2 * 5), some p.1)
theorem pushK_len (l : List Tree) : (pushK l).length = l.length := by simp [pushK]
theorem pushK_snd (l : List Tree) : (pushK l).map (·.2) = l.map some := by
  conv => rhs; rw [← List.zipIdx_map_fst 0 l, List.map_map]
  rw [pushK, List.map_map]
  rfl
theorem pushK_todo (l : List Tree) : todoD (pushK l) = (List.range l.length).map fun i => D.ptr (l.flatMap treeC) ((l.length - 1 - i) * 5) := by
  apply List.ext_getElem?
  intro i
  unfold todoD pushK
  generalize l.flatMap treeC = K
  rw [List.map_map]
  by_cases hi : i < l.length
  · rw [List.getElem?_reverse (by simpa using hi)]
    have h2 : l.length - 1 - i < l.length := by omega
    simp [hi, h2]
  · simp [hi]
theorem pushK_ok {l : List Tree} : ∀ p ∈ pushK l, TodoOk p := by
  intro p hp
  obtain ⟨q, hq, rfl⟩ := List.mem_map.1 hp
  exact ⟨_, _, rfl, flat_at treeC_len (List.mk_mem_zipIdx_iff_getElem?.1 hq)⟩
theorem pushK_form (l : List Tree) : ((pushK l).flatMap fun p => formO p.2) = (l.map Tree.form).flatten := by
  have h := pushK_snd l
  rw [show (pushK l).flatMap (fun p => formO p.2) = ((pushK l).map (·.2)).flatMap formO by rw [List.flatMap_map], h, List.flatMap_map]
  rfl
theorem pushK_cost (l : List Tree) : ((pushK l).map fun p => costO p.2).sum = 2 * (l.map Tree.nodes).sum := by
  have h := pushK_snd l
  rw [show (pushK l).map (fun p => costO p.2) = ((pushK l).map (·.2)).map costO by rw [List.map_map]; rfl, h, List.map_map]
  clear h
  induction l with
  | nil => rfl
  | cons x l ih =>
    rw [List.map_cons, List.sum_cons, List.map_cons, List.sum_cons, ih]
    simp only [Function.comp, costO]
    omega
theorem cost_none : costO none = 1 := rfl
theorem cost_some (x : Tree) : costO (some x) = 2 * x.nodes := rfl
theorem todoD_app (a b : List (D × Option Tree)) : todoD (a ++ b) = todoD b ++ todoD a := by simp [todoD]
theorem todoD_cons (p : D × Option Tree) (b : List (D × Option Tree)) : todoD (p :: b) = todoD b ++ [p.1] := by simp [todoD]
theorem sput_m {G : Nat → Option (List D)} (hG : G 0 = some powD) (t : Tree) {cs : List D} (hcs : treeC t = cs) (hw : t.wt ≤ 10000000) :
    Spec Tryd.prog G 41 [.g cs] (if t.may then .many [.c (bytesD t.form), .c (.v (.int .i64 0))] else .many [.c (.sl 0 []), .c (.v (.int .i64 4))]) := by
  subst hcs
  cases hm : t.may with
  | false =>
    rw [if_neg (by simp)]
    refine spec_of Tryd.func41 rfl rfl rfl (by kernel_rfl) rfl fun K => ?_
    (repeat' (first | with_reducible refine sound_seq_k fun Kn hK => ?_ | with_reducible refine sound_region (by kernel_rfl) ?_ | with_reducible refine sound_drawn (by kernel_rfl) (by kernel_rfl) ?_ | with_reducible refine sound_block ?_ | with_reducible refine sound_if ?_ | with_reducible refine sound_ret ?_ | with_reducible refine sound_skip ?_ | with_reducible refine sound_exit ?_ | (with_reducible refine hK _ ?_; clear hK; clear Kn) | (clear hK; clear Kn; with_reducible refine hK _ ?_; clear hK; clear Kn) | (clear hK; clear Kn; clear hK; clear Kn; with_reducible refine hK _ ?_; clear hK; clear Kn) | (refine ⟨_, sxmay_m hG t rfl hw, ?_⟩) | with_reducible refine ex_bytes ?_ | with_reducible refine loopU_step ?_ | with_reducible refine retO_ret ?_ ?_ | with_reducible refine retO_normal ?_ ?_ | with_reducible refine And.intro (show logOk _ _ = true by kernel_rfl) ?_ | simp (maxSteps := 10000000) (implicitDefEqProofs := false) (disch := omega) only [wrap_id, wrap8, max_r, max_l, min_r, min_l] | (with_reducible refine br_intro (fun hb => ?_) (fun hb => ?_) <;> (try simp only [hb])) | (with_reducible refine And.intro (by first | omega | (simp; done) | (simp; omega)) ?_) | simp (maxSteps := 10000000) (implicitDefEqProofs := false) only [go_sem, Nat.reduceEqDiff, Nat.reduceBEq, ↓reduceIte, Nat.reduceAdd, Nat.reduceMul, Nat.reduceSub, Nat.reduceLeDiff, Nat.reduceLT, reduceCtorEq, Int.reduceLE, Int.reduceLT, Int.reduceToNat, Int.reduceBEq, hm, treeC_len, List.length_map] | fail))
  | true =>
    rw [if_pos rfl]
    have hfl : t.form.length ≤ 4096 := by
      rw [Tree.may] at hm
      simp only [Bool.and_eq_true, decide_eq_true_eq] at hm
      exact hm.2
    refine spec_of Tryd.func41 rfl rfl rfl (by kernel_rfl) rfl fun K => ?_
    refine sound_seq_k fun Kn hK => ?_
    refine sound_region (by kernel_rfl) ?_
    (simp (maxSteps := 10000000) (implicitDefEqProofs := false) only [go_sem, Nat.reduceEqDiff, Nat.reduceBEq, ↓reduceIte, Nat.reduceAdd, Nat.reduceMul, Nat.reduceSub, Nat.reduceLeDiff, Nat.reduceLT, reduceCtorEq, Int.reduceLE, Int.reduceLT, Int.reduceToNat, Int.reduceBEq, true_and]); (try simp (maxSteps := 10000000) (implicitDefEqProofs := false) (disch := omega) only [wrap_id, wrap8, max_r, max_l, min_r, min_l]); (try simp (maxSteps := 10000000) (implicitDefEqProofs := false) only [go_sem, Nat.reduceEqDiff, Nat.reduceBEq, ↓reduceIte, Nat.reduceAdd, Nat.reduceMul, Nat.reduceSub, Nat.reduceLeDiff, Nat.reduceLT, reduceCtorEq, Int.reduceLE, Int.reduceLT, Int.reduceToNat, Int.reduceBEq, true_and])
    refine hK _ ?_; clear hK; clear Kn
    refine sound_data 1 ?_
    (simp (maxSteps := 10000000) (implicitDefEqProofs := false) only [go_sem, Nat.reduceEqDiff, Nat.reduceBEq, ↓reduceIte, Nat.reduceAdd, Nat.reduceMul, Nat.reduceSub, Nat.reduceLeDiff, Nat.reduceLT, reduceCtorEq, Int.reduceLE, Int.reduceLT, Int.reduceToNat, Int.reduceBEq, true_and]); (try simp (maxSteps := 10000000) (implicitDefEqProofs := false) (disch := omega) only [wrap_id, wrap8, max_r, max_l, min_r, min_l]); (try simp (maxSteps := 10000000) (implicitDefEqProofs := false) only [go_sem, Nat.reduceEqDiff, Nat.reduceBEq, ↓reduceIte, Nat.reduceAdd, Nat.reduceMul, Nat.reduceSub, Nat.reduceLeDiff, Nat.reduceLT, reduceCtorEq, Int.reduceLE, Int.reduceLT, Int.reduceToNat, Int.reduceBEq, true_and])
    (repeat' (first | with_reducible refine sound_seq_k fun Kn hK => ?_ | with_reducible refine sound_region (by kernel_rfl) ?_ | with_reducible refine sound_drawn (by kernel_rfl) (by kernel_rfl) ?_ | with_reducible refine sound_block ?_ | with_reducible refine sound_if ?_ | with_reducible refine sound_ret ?_ | with_reducible refine sound_skip ?_ | with_reducible refine sound_exit ?_ | (with_reducible refine hK _ ?_; clear hK; clear Kn) | (clear hK; clear Kn; with_reducible refine hK _ ?_; clear hK; clear Kn) | (clear hK; clear Kn; clear hK; clear Kn; with_reducible refine hK _ ?_; clear hK; clear Kn) | (refine ⟨_, sxmay_m hG t rfl hw, ?_⟩) | with_reducible refine ex_bytes ?_ | with_reducible refine loopU_step ?_ | with_reducible refine retO_ret ?_ ?_ | with_reducible refine retO_normal ?_ ?_ | with_reducible refine And.intro (show logOk _ _ = true by kernel_rfl) ?_ | simp (maxSteps := 10000000) (implicitDefEqProofs := false) (disch := omega) only [wrap_id, wrap8, max_r, max_l, min_r, min_l] | (with_reducible refine br_intro (fun hb => ?_) (fun hb => ?_) <;> (try simp only [hb])) | (with_reducible refine And.intro (by first | omega | (simp; done) | (simp; omega)) ?_) | simp (maxSteps := 10000000) (implicitDefEqProofs := false) only [go_sem, Nat.reduceEqDiff, Nat.reduceBEq, ↓reduceIte, Nat.reduceAdd, Nat.reduceMul, Nat.reduceSub, Nat.reduceLeDiff, Nat.reduceLT, reduceCtorEq, Int.reduceLE, Int.reduceLT, Int.reduceToNat, Int.reduceBEq, hm, treeC_len, treeC_t5, List.length_map] | fail))
    refine sound_void 4 1001 1 5 (by rfl) (by rfl) ?_
    refine sound_grow 5 11 1 1 1 (by rfl) (by rfl) (by rfl) (by rfl) ?_
    refine sound_trim 11 1 (by rfl) ?_
    refine sound_loopR (fun x : PutX t => ⟨[(4, vR 1001 1 x.o.length), (5, vR 1000 1 x.st.length)], [(1000, some ⟨74, (todoD x.st).map C.d, false, false⟩), (1001, some (rowB x.o))]⟩) PutX.cost
      ⟨[], [(.ptr (treeC t) 0, some t)], fun p hp => by
        rw [List.mem_singleton.1 hp]
        exact ⟨_, _, rfl, by rw [List.drop_zero, treeC_t5]⟩, by simp [formO]⟩ [(1000, 11)] (by (simp (maxSteps := 10000000) (implicitDefEqProofs := false) only [go_sem, Nat.reduceEqDiff, Nat.reduceBEq, ↓reduceIte, Nat.reduceAdd, Nat.reduceMul, Nat.reduceSub, Nat.reduceLeDiff, Nat.reduceLT, reduceCtorEq, Int.reduceLE, Int.reduceLT, Int.reduceToNat, Int.reduceBEq, AObj.trim, List.take_succ_cons, List.take_zero, todoD, List.map_cons, List.map_nil, List.reverse_cons, List.reverse_nil, List.nil_append]); (try simp (maxSteps := 10000000) (implicitDefEqProofs := false) (disch := omega) only [wrap_id, wrap8, max_r, max_l, min_r, min_l]); (try simp (maxSteps := 10000000) (implicitDefEqProofs := false) only [go_sem, Nat.reduceEqDiff, Nat.reduceBEq, ↓reduceIte, Nat.reduceAdd, Nat.reduceMul, Nat.reduceSub, Nat.reduceLeDiff, Nat.reduceLT, reduceCtorEq, Int.reduceLE, Int.reduceLT, Int.reduceToNat, Int.reduceBEq, AObj.trim, List.take_succ_cons, List.take_zero, todoD, List.map_cons, List.map_nil, List.reverse_cons, List.reverse_nil, List.nil_append]); simp) (fun ⟨o, st, ok, whole⟩ => ?_)
    have hbd := PutX.len ⟨o, st, ok, whole⟩
    simp only at hbd ⊢
    cases st with
    | nil =>
      rw [List.flatMap_nil, List.append_nil] at whole
      have e0 : decide ((0 : Int) < ((0 : Nat) : Int)) = false := rfl
      (repeat' (first | with_reducible refine sound_seq_k fun Kn hK => ?_ | with_reducible refine sound_region (by kernel_rfl) ?_ | with_reducible refine sound_drawn (by kernel_rfl) (by kernel_rfl) ?_ | with_reducible refine sound_block ?_ | with_reducible refine sound_if ?_ | with_reducible refine sound_ret ?_ | with_reducible refine sound_skip ?_ | with_reducible refine sound_exit ?_ | (with_reducible refine hK _ ?_; clear hK; clear Kn) | (clear hK; clear Kn; with_reducible refine hK _ ?_; clear hK; clear Kn) | (clear hK; clear Kn; clear hK; clear Kn; with_reducible refine hK _ ?_; clear hK; clear Kn) | fail | with_reducible refine ex_bytes ?_ | with_reducible refine loopU_step ?_ | with_reducible refine retO_ret ?_ ?_ | with_reducible refine retO_normal ?_ ?_ | with_reducible refine And.intro (show logOk _ _ = true by kernel_rfl) ?_ | simp (maxSteps := 10000000) (implicitDefEqProofs := false) (disch := omega) only [wrap_id, wrap8, max_r, max_l, min_r, min_l] | (with_reducible refine br_intro (fun hb => ?_) (fun hb => ?_) <;> (try simp only [hb])) | (with_reducible refine And.intro (by first | omega | (simp; done) | (simp; omega)) ?_) | simp (maxSteps := 10000000) (implicitDefEqProofs := false) only [go_sem, Nat.reduceEqDiff, Nat.reduceBEq, ↓reduceIte, Nat.reduceAdd, Nat.reduceMul, Nat.reduceSub, Nat.reduceLeDiff, Nat.reduceLT, reduceCtorEq, Int.reduceLE, Int.reduceLT, Int.reduceToNat, Int.reduceBEq, List.length_nil, e0, gt_iff_lt] | fail))
      rw [whole]
    | cons p st =>
      obtain ⟨d, q⟩ := p
      have hd := ok (d, q) (List.mem_cons_self ..)
      have ok' : ∀ p ∈ st, TodoOk p := fun p hp => ok p (List.mem_cons_of_mem _ hp)
      rw [List.flatMap_cons] at whole
      rw [List.length_cons] at hbd
      have e0 : decide ((0 : Int) < ((st.length + 1 : Nat) : Int)) = true := decide_eq_true (by omega)
      have e1 : (((st.length + 1 : Nat) : Int) - 1) = (st.length : Int) := by omega
      have e2 : ((todoD ((d, q) :: st)).map C.d)[st.length]? = some (C.d d) := by simp [todoD]
      have e3 : ((todoD ((d, q) :: st)).map C.d).take st.length = (todoD st).map C.d := by simp [todoD]
      have e4 := todoD_len ((d, q) :: st)
      generalize todoD ((d, q) :: st) = T at e2 e3 e4 ⊢
      cases q with
      | none =>
        obtain rfl : d = .v (.pointer none) := hd
        (repeat' (first | (refine sound_popped 5 1000 1 st.length st.length 74 (T.map C.d) (by rfl) (by rfl) ?_) | with_reducible refine sound_seq_k fun Kn hK => ?_ | with_reducible refine sound_region (by kernel_rfl) ?_ | with_reducible refine sound_drawn (by kernel_rfl) (by kernel_rfl) ?_ | with_reducible refine sound_block ?_ | with_reducible refine sound_if ?_ | with_reducible refine sound_ret ?_ | with_reducible refine sound_skip ?_ | with_reducible refine sound_exit ?_ | (with_reducible refine hK _ ?_; clear hK; clear Kn) | (clear hK; clear Kn; with_reducible refine hK _ ?_; clear hK; clear Kn) | (clear hK; clear Kn; clear hK; clear Kn; with_reducible refine hK _ ?_; clear hK; clear Kn) | fail | with_reducible refine ex_bytes ?_ | with_reducible refine loopU_step ?_ | with_reducible refine retO_ret ?_ ?_ | with_reducible refine retO_normal ?_ ?_ | with_reducible refine And.intro (show logOk _ _ = true by kernel_rfl) ?_ | simp (maxSteps := 10000000) (implicitDefEqProofs := false) (disch := omega) only [wrap_id, wrap8, max_r, max_l, min_r, min_l] | (with_reducible refine br_intro (fun hb => ?_) (fun hb => ?_) <;> (try simp only [hb])) | (with_reducible refine And.intro (by first | omega | (simp; done) | (simp; omega)) ?_) | simp (maxSteps := 10000000) (implicitDefEqProofs := false) only [go_sem, Nat.reduceEqDiff, Nat.reduceBEq, ↓reduceIte, Nat.reduceAdd, Nat.reduceMul, Nat.reduceSub, Nat.reduceLeDiff, Nat.reduceLT, reduceCtorEq, Int.reduceLE, Int.reduceLT, Int.reduceToNat, Int.reduceBEq, e0, e1, e2, e3, gt_iff_lt, List.length_cons, List.length_map, todoD_len, e4] | fail))
        refine ⟨[(1001, 51)], ⟨o ++ [41], st, ok', by rw [List.append_assoc]; exact whole⟩, ?_⟩
        (simp (maxSteps := 10000000) (implicitDefEqProofs := false) only [go_sem, Nat.reduceEqDiff, Nat.reduceBEq, ↓reduceIte, Nat.reduceAdd, Nat.reduceMul, Nat.reduceSub, Nat.reduceLeDiff, Nat.reduceLT, reduceCtorEq, Int.reduceLE, Int.reduceLT, Int.reduceToNat, Int.reduceBEq, List.length_append, List.length_cons, List.length_nil, List.map_append, List.map_cons, List.map_nil]); (try simp (maxSteps := 10000000) (implicitDefEqProofs := false) (disch := omega) only [wrap_id, wrap8, max_r, max_l, min_r, min_l]); (try simp (maxSteps := 10000000) (implicitDefEqProofs := false) only [go_sem, Nat.reduceEqDiff, Nat.reduceBEq, ↓reduceIte, Nat.reduceAdd, Nat.reduceMul, Nat.reduceSub, Nat.reduceLeDiff, Nat.reduceLT, reduceCtorEq, Int.reduceLE, Int.reduceLT, Int.reduceToNat, Int.reduceBEq, List.length_append, List.length_cons, List.length_nil, List.map_append, List.map_cons, List.map_nil])
        simp [PutX.cost, cost_none, cost_some, bD]
      | some x =>
        obtain ⟨K, off, rfl, hK⟩ := hd
        obtain ⟨c0, c1, c2, c3, c4⟩ := ptr_cells hK
        have hxf : o.length + x.form.length ≤ 4096 := by
          have := congrArg List.length whole
          simp only [formO, List.length_append] at this
          omega
        have hfp := form_pos x
        cases hl : x.list with
        | false =>
          have hfx : x.form = x.atomF := by rw [x.form_eq, hl]; rfl
          have hfl2 := hxf
          rw [hfx, Tree.atomF, List.length_append] at hfl2
          rw [hl] at c0
          have h91 : (o.map bD).map C.d ++ [C.d (.v (.int .u8 91))] = ((o ++ [91]).map bD).map C.d := by simp [bD]
          have htd : x.data.length < (textB x.data).length := by simp [textB]; omega
          cases hh : x.hinted with
          | false =>
            rw [hh] at c1 hfl2
            rw [if_neg (by simp), List.length_nil] at hfl2
            (repeat' (first | (refine sound_popped 5 1000 1 st.length st.length 74 (T.map C.d) (by rfl) (by rfl) ?_) | with_reducible refine sound_seq_k fun Kn hK => ?_ | with_reducible refine sound_region (by kernel_rfl) ?_ | with_reducible refine sound_drawn (by kernel_rfl) (by kernel_rfl) ?_ | with_reducible refine sound_block ?_ | with_reducible refine sound_if ?_ | with_reducible refine sound_ret ?_ | with_reducible refine sound_skip ?_ | with_reducible refine sound_exit ?_ | (with_reducible refine hK _ ?_; clear hK; clear Kn) | (clear hK; clear Kn; with_reducible refine hK _ ?_; clear hK; clear Kn) | (clear hK; clear Kn; clear hK; clear Kn; with_reducible refine hK _ ?_; clear hK; clear Kn) | (refine ⟨some [0], ?_⟩) | (refine ⟨_, put_m hG o x.data _ rfl (by omega) (by omega), ?_⟩) | with_reducible refine ex_bytes ?_ | with_reducible refine loopU_step ?_ | with_reducible refine retO_ret ?_ ?_ | with_reducible refine retO_normal ?_ ?_ | with_reducible refine And.intro (show logOk _ _ = true by kernel_rfl) ?_ | simp (maxSteps := 10000000) (implicitDefEqProofs := false) (disch := omega) only [wrap_id, wrap8, max_r, max_l, min_r, min_l] | (with_reducible refine br_intro (fun hb => ?_) (fun hb => ?_) <;> (try simp only [hb])) | (with_reducible refine And.intro (by first | omega | (simp; done) | (simp; omega)) ?_) | simp (maxSteps := 10000000) (implicitDefEqProofs := false) only [go_sem, Nat.reduceEqDiff, Nat.reduceBEq, ↓reduceIte, Nat.reduceAdd, Nat.reduceMul, Nat.reduceSub, Nat.reduceLeDiff, Nat.reduceLT, reduceCtorEq, Int.reduceLE, Int.reduceLT, Int.reduceToNat, Int.reduceBEq, e0, e1, e2, e3, gt_iff_lt, List.length_cons, List.length_map, todoD_len, e4, Nat.add_zero, c0, c1, c2, c3, c4] | fail))
            refine ⟨[(1001, 45)], ⟨o ++ textB x.data, st, ok', by rw [← whole, formO, hfx, Tree.atomF, hh]; simp⟩, ?_⟩
            (simp (maxSteps := 10000000) (implicitDefEqProofs := false) only [go_sem, Nat.reduceEqDiff, Nat.reduceBEq, ↓reduceIte, Nat.reduceAdd, Nat.reduceMul, Nat.reduceSub, Nat.reduceLeDiff, Nat.reduceLT, reduceCtorEq, Int.reduceLE, Int.reduceLT, Int.reduceToNat, Int.reduceBEq, List.length_append, List.length_cons]); (try simp (maxSteps := 10000000) (implicitDefEqProofs := false) (disch := omega) only [wrap_id, wrap8, max_r, max_l, min_r, min_l]); (try simp (maxSteps := 10000000) (implicitDefEqProofs := false) only [go_sem, Nat.reduceEqDiff, Nat.reduceBEq, ↓reduceIte, Nat.reduceAdd, Nat.reduceMul, Nat.reduceSub, Nat.reduceLeDiff, Nat.reduceLT, reduceCtorEq, Int.reduceLE, Int.reduceLT, Int.reduceToNat, Int.reduceBEq, List.length_append, List.length_cons])
            have := x.nodes_pos
            simp [PutX.cost, cost_none, cost_some]
            omega
          | true =>
            rw [hh] at c1 hfl2
            rw [if_pos rfl] at hfl2
            simp only [List.length_append, List.length_cons, List.length_nil] at hfl2
            have hth : x.hint.length < (textB x.hint).length := by simp [textB]; omega
            have h93 : ((o ++ [91] ++ textB x.hint).map bD).map C.d ++ [C.d (.v (.int .u8 93))] = ((o ++ [91] ++ textB x.hint ++ [93]).map bD).map C.d := by simp [bD]
            (repeat' (first | (refine sound_popped 5 1000 1 st.length st.length 74 (T.map C.d) (by rfl) (by rfl) ?_) | with_reducible refine sound_seq_k fun Kn hK => ?_ | with_reducible refine sound_region (by kernel_rfl) ?_ | with_reducible refine sound_drawn (by kernel_rfl) (by kernel_rfl) ?_ | with_reducible refine sound_block ?_ | with_reducible refine sound_if ?_ | with_reducible refine sound_ret ?_ | with_reducible refine sound_skip ?_ | with_reducible refine sound_exit ?_ | (with_reducible refine hK _ ?_; clear hK; clear Kn) | (clear hK; clear Kn; with_reducible refine hK _ ?_; clear hK; clear Kn) | (clear hK; clear Kn; clear hK; clear Kn; with_reducible refine hK _ ?_; clear hK; clear Kn) | (refine ⟨some [0], ?_⟩) | (refine ⟨_, put_m hG (o ++ [91]) x.hint _ (by simp; done) (by omega) (by omega), ?_⟩) | (refine ⟨_, put_m hG (o ++ [91] ++ textB x.hint ++ [93]) x.data _ (by simp; omega) (by omega) (by omega), ?_⟩) | with_reducible refine ex_bytes ?_ | with_reducible refine loopU_step ?_ | with_reducible refine retO_ret ?_ ?_ | with_reducible refine retO_normal ?_ ?_ | with_reducible refine And.intro (show logOk _ _ = true by kernel_rfl) ?_ | simp (maxSteps := 10000000) (implicitDefEqProofs := false) (disch := omega) only [wrap_id, wrap8, max_r, max_l, min_r, min_l] | (with_reducible refine br_intro (fun hb => ?_) (fun hb => ?_) <;> (try simp only [hb])) | (with_reducible refine And.intro (by first | omega | (simp; done) | (simp; omega)) ?_) | simp (maxSteps := 10000000) (implicitDefEqProofs := false) only [go_sem, Nat.reduceEqDiff, Nat.reduceBEq, ↓reduceIte, Nat.reduceAdd, Nat.reduceMul, Nat.reduceSub, Nat.reduceLeDiff, Nat.reduceLT, reduceCtorEq, Int.reduceLE, Int.reduceLT, Int.reduceToNat, Int.reduceBEq, e0, e1, e2, e3, gt_iff_lt, List.length_cons, List.length_map, todoD_len, e4, Nat.add_zero, c0, c1, c2, c3, c4, h91, h93] | fail))
            refine ⟨[(1001, 45)], ⟨o ++ [91] ++ textB x.hint ++ [93] ++ textB x.data, st, ok', by rw [← whole, formO, hfx, Tree.atomF, hh]; simp⟩, ?_⟩
            (simp (maxSteps := 10000000) (implicitDefEqProofs := false) only [go_sem, Nat.reduceEqDiff, Nat.reduceBEq, ↓reduceIte, Nat.reduceAdd, Nat.reduceMul, Nat.reduceSub, Nat.reduceLeDiff, Nat.reduceLT, reduceCtorEq, Int.reduceLE, Int.reduceLT, Int.reduceToNat, Int.reduceBEq, List.length_append, List.length_cons, List.length_nil]); (try simp (maxSteps := 10000000) (implicitDefEqProofs := false) (disch := omega) only [wrap_id, wrap8, max_r, max_l, min_r, min_l]); (try simp (maxSteps := 10000000) (implicitDefEqProofs := false) only [go_sem, Nat.reduceEqDiff, Nat.reduceBEq, ↓reduceIte, Nat.reduceAdd, Nat.reduceMul, Nat.reduceSub, Nat.reduceLeDiff, Nat.reduceLT, reduceCtorEq, Int.reduceLE, Int.reduceLT, Int.reduceToNat, Int.reduceBEq, List.length_append, List.length_cons, List.length_nil])
            have := x.nodes_pos
            simp [PutX.cost, cost_none, cost_some]
            omega
        | true =>
          rw [hl] at c0
          have hwk := x.wt_kids
          have hxk : x.kids.length ≤ 4096 := by
            have h1 : ∀ l : List Tree, l.length ≤ (l.map Tree.form).flatten.length := by
              intro l
              induction l with
              | nil => simp
              | cons y l ih =>
                have := form_pos y
                simp only [List.map_cons, List.flatten_cons, List.length_append, List.length_cons]
                omega
            have h2 := h1 x.kids
            have h3 := form_list hl
            omega
          (repeat' (first | (refine sound_popped 5 1000 1 st.length st.length 74 (T.map C.d) (by rfl) (by rfl) ?_) | with_reducible refine sound_seq_k fun Kn hK => ?_ | with_reducible refine sound_region (by kernel_rfl) ?_ | with_reducible refine sound_drawn (by kernel_rfl) (by kernel_rfl) ?_ | with_reducible refine sound_block ?_ | with_reducible refine sound_if ?_ | with_reducible refine sound_ret ?_ | with_reducible refine sound_skip ?_ | with_reducible refine sound_exit ?_ | (with_reducible refine hK _ ?_; clear hK; clear Kn) | (clear hK; clear Kn; with_reducible refine hK _ ?_; clear hK; clear Kn) | (clear hK; clear Kn; clear hK; clear Kn; with_reducible refine hK _ ?_; clear hK; clear Kn) | fail | with_reducible refine ex_bytes ?_ | with_reducible refine loopU_step ?_ | with_reducible refine retO_ret ?_ ?_ | with_reducible refine retO_normal ?_ ?_ | with_reducible refine And.intro (show logOk _ _ = true by kernel_rfl) ?_ | simp (maxSteps := 10000000) (implicitDefEqProofs := false) (disch := omega) only [wrap_id, wrap8, max_r, max_l, min_r, min_l] | (with_reducible refine br_intro (fun hb => ?_) (fun hb => ?_) <;> (try simp only [hb])) | (with_reducible refine And.intro (by first | omega | (simp; done) | (simp; omega)) ?_) | simp (maxSteps := 10000000) (implicitDefEqProofs := false) only [go_sem, Nat.reduceEqDiff, Nat.reduceBEq, ↓reduceIte, Nat.reduceAdd, Nat.reduceMul, Nat.reduceSub, Nat.reduceLeDiff, Nat.reduceLT, reduceCtorEq, Int.reduceLE, Int.reduceLT, Int.reduceToNat, Int.reduceBEq, e0, e1, e2, e3, gt_iff_lt, List.length_cons, List.length_map, todoD_len, e4, Nat.add_zero, c0, c1, c2, c3, c4] | fail))
          refine sound_loopR (fun y : {j : Nat // j ≤ x.kids.length} => ⟨[(4, vR 1001 1 (o.length + 1)), (5, vR 1000 1 (st.length + 1 + y.1)), (6, vD (.ptr K off)), (67, vI x.kids.length), (68, vI y.1)],
            [(1000, some ⟨74, (todoD st ++ [D.v (.pointer none)] ++ (List.range y.1).map fun i => D.ptr (x.kids.flatMap treeC) ((x.kids.length - 1 - i) * 5)).map C.d, false, false⟩), (1001, some (rowB (o ++ [40])))]⟩) (fun y => x.kids.length - y.1)
            ⟨0, by omega⟩ [(1000, 62), (1001, 59)] (by (simp (maxSteps := 10000000) (implicitDefEqProofs := false) only [go_sem, Nat.reduceEqDiff, Nat.reduceBEq, ↓reduceIte, Nat.reduceAdd, Nat.reduceMul, Nat.reduceSub, Nat.reduceLeDiff, Nat.reduceLT, reduceCtorEq, Int.reduceLE, Int.reduceLT, Int.reduceToNat, Int.reduceBEq, List.range_zero, List.map_nil, List.append_nil]); (try simp (maxSteps := 10000000) (implicitDefEqProofs := false) (disch := omega) only [wrap_id, wrap8, max_r, max_l, min_r, min_l]); (try simp (maxSteps := 10000000) (implicitDefEqProofs := false) only [go_sem, Nat.reduceEqDiff, Nat.reduceBEq, ↓reduceIte, Nat.reduceAdd, Nat.reduceMul, Nat.reduceSub, Nat.reduceLeDiff, Nat.reduceLT, reduceCtorEq, Int.reduceLE, Int.reduceLT, Int.reduceToNat, Int.reduceBEq, List.range_zero, List.map_nil, List.append_nil]); simp [bD]) (fun ⟨j, hj⟩ => ?_)
          by_cases hlt : j < x.kids.length
          · have hb : decide ((j : Int) < (x.kids.length : Int)) = true := by simpa using hlt
            have e5 : (x.kids.length : Int) - 1 - (j : Int) = ((x.kids.length - 1 - j : Nat) : Int) := by omega
            (repeat' (first | with_reducible refine sound_seq_k fun Kn hK => ?_ | with_reducible refine sound_region (by kernel_rfl) ?_ | with_reducible refine sound_drawn (by kernel_rfl) (by kernel_rfl) ?_ | with_reducible refine sound_block ?_ | with_reducible refine sound_if ?_ | with_reducible refine sound_ret ?_ | with_reducible refine sound_skip ?_ | with_reducible refine sound_exit ?_ | (with_reducible refine hK _ ?_; clear hK; clear Kn) | (clear hK; clear Kn; with_reducible refine hK _ ?_; clear hK; clear Kn) | (clear hK; clear Kn; clear hK; clear Kn; with_reducible refine hK _ ?_; clear hK; clear Kn) | fail | with_reducible refine ex_bytes ?_ | with_reducible refine loopU_step ?_ | with_reducible refine retO_ret ?_ ?_ | with_reducible refine retO_normal ?_ ?_ | with_reducible refine And.intro (show logOk _ _ = true by kernel_rfl) ?_ | simp (maxSteps := 10000000) (implicitDefEqProofs := false) (disch := omega) only [wrap_id, wrap8, max_r, max_l, min_r, min_l] | (with_reducible refine br_intro (fun hb => ?_) (fun hb => ?_) <;> (try simp only [hb])) | (with_reducible refine And.intro (by first | omega | (simp; done) | (simp; omega)) ?_) | simp (maxSteps := 10000000) (implicitDefEqProofs := false) only [go_sem, Nat.reduceEqDiff, Nat.reduceBEq, ↓reduceIte, Nat.reduceAdd, Nat.reduceMul, Nat.reduceSub, Nat.reduceLeDiff, Nat.reduceLT, reduceCtorEq, Int.reduceLE, Int.reduceLT, Int.reduceToNat, Int.reduceBEq, hb, c4, e5, List.length_append, List.length_cons, List.length_nil, List.length_map, todoD_len, List.length_range] | fail))
            refine ⟨[(1000, 86)], ⟨j + 1, hlt⟩, ?_⟩
            (simp (maxSteps := 10000000) (implicitDefEqProofs := false) only [go_sem, Nat.reduceEqDiff, Nat.reduceBEq, ↓reduceIte, Nat.reduceAdd, Nat.reduceMul, Nat.reduceSub, Nat.reduceLeDiff, Nat.reduceLT, reduceCtorEq, Int.reduceLE, Int.reduceLT, Int.reduceToNat, Int.reduceBEq, List.range_succ, List.map_append, List.map_cons, List.map_nil]); (try simp (maxSteps := 10000000) (implicitDefEqProofs := false) (disch := omega) only [wrap_id, wrap8, max_r, max_l, min_r, min_l]); (try simp (maxSteps := 10000000) (implicitDefEqProofs := false) only [go_sem, Nat.reduceEqDiff, Nat.reduceBEq, ↓reduceIte, Nat.reduceAdd, Nat.reduceMul, Nat.reduceSub, Nat.reduceLeDiff, Nat.reduceLT, reduceCtorEq, Int.reduceLE, Int.reduceLT, Int.reduceToNat, Int.reduceBEq, List.range_succ, List.map_append, List.map_cons, List.map_nil])
            simp
            omega
          · have hb : decide ((j : Int) < (x.kids.length : Int)) = false := by simpa using hlt
            obtain rfl : j = x.kids.length := by omega
            (repeat' (first | with_reducible refine sound_seq_k fun Kn hK => ?_ | with_reducible refine sound_region (by kernel_rfl) ?_ | with_reducible refine sound_drawn (by kernel_rfl) (by kernel_rfl) ?_ | with_reducible refine sound_block ?_ | with_reducible refine sound_if ?_ | with_reducible refine sound_ret ?_ | with_reducible refine sound_skip ?_ | with_reducible refine sound_exit ?_ | (with_reducible refine hK _ ?_; clear hK; clear Kn) | (clear hK; clear Kn; with_reducible refine hK _ ?_; clear hK; clear Kn) | (clear hK; clear Kn; clear hK; clear Kn; with_reducible refine hK _ ?_; clear hK; clear Kn) | fail | with_reducible refine ex_bytes ?_ | with_reducible refine loopU_step ?_ | with_reducible refine retO_ret ?_ ?_ | with_reducible refine retO_normal ?_ ?_ | with_reducible refine And.intro (show logOk _ _ = true by kernel_rfl) ?_ | simp (maxSteps := 10000000) (implicitDefEqProofs := false) (disch := omega) only [wrap_id, wrap8, max_r, max_l, min_r, min_l] | (with_reducible refine br_intro (fun hb => ?_) (fun hb => ?_) <;> (try simp only [hb])) | (with_reducible refine And.intro (by first | omega | (simp; done) | (simp; omega)) ?_) | simp (maxSteps := 10000000) (implicitDefEqProofs := false) only [go_sem, Nat.reduceEqDiff, Nat.reduceBEq, ↓reduceIte, Nat.reduceAdd, Nat.reduceMul, Nat.reduceSub, Nat.reduceLeDiff, Nat.reduceLT, reduceCtorEq, Int.reduceLE, Int.reduceLT, Int.reduceToNat, Int.reduceBEq, hb] | fail))
            have hn := x.nodes_eq
            refine ⟨[], ⟨o ++ [40], pushK x.kids ++ (D.v (.pointer none), none) :: st, fun p hp => ?_, ?_⟩, ?_⟩
            · rcases List.mem_append.1 hp with hp | hp
              · exact pushK_ok p hp
              · rcases List.mem_cons.1 hp with rfl | hp
                · exact rfl
                · exact ok' p hp
            · rw [List.flatMap_append, pushK_form, ← whole, List.flatMap_cons, formO, formO, x.form_eq, hl]
              simp
            · (simp (maxSteps := 10000000) (implicitDefEqProofs := false) only [go_sem, Nat.reduceEqDiff, Nat.reduceBEq, ↓reduceIte, Nat.reduceAdd, Nat.reduceMul, Nat.reduceSub, Nat.reduceLeDiff, Nat.reduceLT, reduceCtorEq, Int.reduceLE, Int.reduceLT, Int.reduceToNat, Int.reduceBEq, todoD_app, todoD_cons, pushK_todo, List.length_append, List.length_cons, pushK_len]); (try simp (maxSteps := 10000000) (implicitDefEqProofs := false) (disch := omega) only [wrap_id, wrap8, max_r, max_l, min_r, min_l]); (try simp (maxSteps := 10000000) (implicitDefEqProofs := false) only [go_sem, Nat.reduceEqDiff, Nat.reduceBEq, ↓reduceIte, Nat.reduceAdd, Nat.reduceMul, Nat.reduceSub, Nat.reduceLeDiff, Nat.reduceLT, reduceCtorEq, Int.reduceLE, Int.reduceLT, Int.reduceToNat, Int.reduceBEq, todoD_app, todoD_cons, pushK_todo, List.length_append, List.length_cons, pushK_len])
              simp [PutX.cost, pushK_cost, cost_none, cost_some]
              omega
end Go.Proofs.YtdakeodebgggfaaDoor

/- Principals, in plain Lean: their values; of which value one is got. -/
namespace Go.Proofs.YtdakeodebgggfaaDoor
set_option linter.unusedVariables false
def atomT (s : List UInt8) : Tree := .mk false false [] s []
def listT (l : List Tree) : Tree := .mk true false [] [] l
def keyMay (s : Bool) (d : List UInt8) : Bool := if s then d.length == 64 else d.length == 32
def tHash : List UInt8 := [104, 97, 115, 104]
def tSha : List UInt8 := [115, 104, 97, 53, 49, 50]
def tPub : List UInt8 := [112, 117, 98, 108, 105, 99, 45, 107, 101, 121]
def tEd : List UInt8 := [101, 100, 50, 53, 53, 49, 57]
def keyV (s : Bool) (d : List UInt8) : Tree := if s then listT [atomT tHash, atomT tSha, atomT d] else listT [atomT tPub, listT [atomT tEd, atomT d]]
def zeroT : Tree := .mk false false [] [] []
def keyOut (s : Bool) (d : List UInt8) : Tree := if keyMay s d then keyV s d else zeroT
def keyErr (s : Bool) (d : List UInt8) : Int := if keyMay s d then 0 else 7
def Tree.kid (t : Tree) (i : Nat) : Tree := t.kids.getD i zeroT
theorem Tree.kid_at {t x : Tree} {i : Nat} (h : t.kids[i]? = some x) : t.kid i = x := by simp [Tree.kid, h]
def plainB (t : Tree) (n : Nat) : Bool := !t.list && !t.hinted && t.data.length == n
/-- The document's way. -/
def rgetK (v : Tree) : Option (Bool × List UInt8) :=
  if headB v tHash && v.kids.length == 3 && isB (v.kid 1) tSha && plainB (v.kid 2) 64 then some (true, (v.kid 2).data)
  else if headB v tPub && v.kids.length == 2 && headB (v.kid 1) tEd && (v.kid 1).kids.length == 2 && plainB ((v.kid 1).kid 1) 32 then some (false, ((v.kid 1).kid 1).data) else none
/-- The program's way. -/
def candK (v : Tree) : Option (Bool × List UInt8) :=
  if v.kids.length == 3 then some (true, (v.kid 2).data) else if v.kids.length == 2 && (v.kid 1).kids.length == 2 then some (false, ((v.kid 1).kid 1).data) else none
noncomputable def getK (v : Tree) : Option (Bool × List UInt8) :=
  match candK v with
  | some k => if keyErr k.1 k.2 == 0 && v.same (keyOut k.1 k.2) then some k else none
  | none => none

theorem same_iff {t u : Tree} : t.same u = true ↔ t = u := ⟨same_of, same_t⟩
theorem same_refl' (t : Tree) : t.same t = true := same_t rfl
theorem Tree.clean_parts {t : Tree} (h : t.clean = true) : t.fair = true ∧ ∀ x ∈ t.kids, x.clean = true := by
  rw [Tree.clean_eq, Bool.and_eq_true, List.all_eq_true] at h
  exact h
theorem fair_atomT {t : Tree} (h : t.fair = true) (hl : t.list = false) (hh : t.hinted = false) : t = atomT t.data := by
  rw [Tree.fair, hl, hh] at h
  simp at h
  rw [Tree.eta t, hl, hh]
  simp [atomT, h, Tree.data]
theorem fair_listT {t : Tree} (h : t.fair = true) (hl : t.list = true) : t = listT t.kids := by
  rw [Tree.fair, hl] at h
  simp at h
  rw [Tree.eta t, hl]
  simp [listT, h, Tree.kids]
theorem isB_iff {t : Tree} {s : List UInt8} (h : t.fair = true) : isB t s = true ↔ t = atomT s := by
  constructor
  · intro hi
    simp [isB] at hi
    obtain ⟨⟨h1, h2⟩, h3⟩ := hi
    rw [fair_atomT h h1 h2, h3]
  · rintro rfl
    simp [isB, atomT, Tree.list, Tree.hinted, Tree.data]
theorem plainB_iff {t : Tree} {n : Nat} (h : t.fair = true) : plainB t n = true ↔ t = atomT t.data ∧ t.data.length = n := by
  constructor
  · intro hi
    simp [plainB] at hi
    obtain ⟨⟨h1, h2⟩, h3⟩ := hi
    exact ⟨fair_atomT h h1 h2, h3⟩
  · rintro ⟨h1, h2⟩
    rw [h1] at h2 ⊢
    simp [plainB, atomT, Tree.list, Tree.hinted, Tree.data] at h2 ⊢
    exact h2
theorem headB_iff {t : Tree} {s : List UInt8} (h : t.clean = true) : headB t s = true ↔ ∃ l, t = listT (atomT s :: l) := by
  obtain ⟨hf, hk⟩ := Tree.clean_parts h
  constructor
  · intro hi
    rw [headB, Bool.and_eq_true] at hi
    obtain ⟨h1, h2⟩ := hi
    have ht := fair_listT hf h1
    cases hq : t.kids with
    | nil => rw [hq] at h2; cases h2
    | cons x l =>
      rw [hq] at h2
      have hx := (isB_iff (Tree.clean_parts (hk x (by rw [hq]; simp))).1).1 h2
      exact ⟨l, by rw [ht, hq, hx]⟩
  · rintro ⟨l, rfl⟩
    simp [headB, isB, listT, atomT, Tree.list, Tree.kids, Tree.hinted, Tree.data]
theorem Tree.kid_clean {t : Tree} (h : t.clean = true) {i : Nat} (hi : i < t.kids.length) : (t.kid i).clean = true := by
  have : t.kid i = t.kids[i] := Tree.kid_at (List.getElem?_eq_getElem hi)
  rw [this]
  exact (Tree.clean_parts h).2 _ (List.getElem_mem hi)

theorem keyMay_err {s : Bool} {d : List UInt8} : (keyErr s d == 0) = keyMay s d := by
  rw [keyErr]
  cases keyMay s d <;> rfl
theorem candK_keyV (s : Bool) (d : List UInt8) : candK (keyV s d) = some (s, d) := by
  cases s <;> rfl
theorem getK_iff {v : Tree} {s : Bool} {d : List UInt8} : getK v = some (s, d) ↔ keyMay s d = true ∧ v = keyV s d := by
  unfold getK
  constructor
  · intro h
    cases hc : candK v with
    | none => rw [hc] at h; cases h
    | some k =>
      rw [hc] at h
      dsimp only at h
      split at h
      · rename_i hq
        injection h with h
        subst h
        rw [Bool.and_eq_true, keyMay_err, same_iff] at hq
        obtain ⟨h1, h2⟩ := hq
        refine ⟨h1, ?_⟩
        rw [h2, keyOut, h1]
        rfl
      · cases h
  · rintro ⟨h1, rfl⟩
    rw [candK_keyV]
    dsimp only
    rw [keyMay_err, h1, keyOut, h1]
    simp [same_refl']
theorem rgetK_iff {v : Tree} (hv : v.clean = true) {s : Bool} {d : List UInt8} : rgetK v = some (s, d) ↔ keyMay s d = true ∧ v = keyV s d := by
  unfold rgetK
  constructor
  · intro h
    split at h
    · rename_i hq
      injection h with h
      injection h with h1 h2
      subst h1 h2
      simp only [Bool.and_eq_true, beq_iff_eq] at hq
      obtain ⟨⟨⟨a1, a2⟩, a3⟩, a4⟩ := hq
      obtain ⟨l, rfl⟩ := (headB_iff hv).1 a1
      have b1 := (isB_iff (Tree.clean_parts (Tree.kid_clean hv (i := 1) (by omega))).1).1 a3
      have b2 := (plainB_iff (Tree.clean_parts (Tree.kid_clean hv (i := 2) (by omega))).1).1 a4
      match l, a2, b1, b2 with
      | [x, y], _, b1, b2 =>
        have c1 : x = atomT tSha := b1
        have c2 : y = atomT y.data ∧ y.data.length = 64 := b2
        refine ⟨?_, ?_⟩
        · show (if true = true then y.data.length == 64 else _) = true
          rw [if_pos rfl, c2.2]
          rfl
        · show listT [atomT tHash, x, y] = listT [atomT tHash, atomT tSha, atomT y.data]
          rw [c1, ← c2.1]
    · split at h
      · rename_i hq
        injection h with h
        injection h with h1 h2
        subst h1 h2
        simp only [Bool.and_eq_true, beq_iff_eq] at hq
        obtain ⟨⟨⟨⟨a1, a2⟩, a3⟩, a4⟩, a5⟩ := hq
        obtain ⟨l, rfl⟩ := (headB_iff hv).1 a1
        have hk := Tree.kid_clean hv (i := 1) (by omega)
        obtain ⟨m, hm⟩ := (headB_iff hk).1 a3
        rw [hm] at a4 a5 hk
        have b2 := (plainB_iff (Tree.clean_parts (Tree.kid_clean hk (i := 1) (by omega))).1).1 a5
        match l, a2, m, a4, hm, b2 with
        | [x], _, [y], _, hm, b2 =>
          have c1 : x = listT [atomT tEd, y] := hm
          have c2 : y = atomT y.data ∧ y.data.length = 32 := b2
          have e : (Tree.kid (Tree.kid (listT [atomT tPub, x]) 1) 1).data = y.data := by
            show (x.kid 1).data = _
            rw [c1]
            rfl
          rw [e]
          refine ⟨?_, ?_⟩
          · show (if false = true then _ else y.data.length == 32) = true
            rw [if_neg (by simp), c2.2]
            rfl
          · show listT [atomT tPub, x] = listT [atomT tPub, listT [atomT tEd, atomT y.data]]
            rw [c1, ← c2.1]
      · cases h
  · rintro ⟨h1, rfl⟩
    cases s
    · have h2 : d.length = 32 := by simpa [keyMay] using h1
      have e1 : headB (keyV false d) tHash = false := by simp [keyV, headB, isB, listT, atomT, Tree.list, Tree.kids, Tree.hinted, Tree.data, tPub, tHash]
      have e2 : headB (keyV false d) tPub = true := by simp [keyV, headB, isB, listT, atomT, Tree.list, Tree.kids, Tree.hinted, Tree.data]
      have e3 : headB ((keyV false d).kid 1) tEd = true := by simp [keyV, Tree.kid, headB, isB, listT, atomT, Tree.list, Tree.kids, Tree.hinted, Tree.data]
      have e4 : plainB (((keyV false d).kid 1).kid 1) 32 = true := by simp [keyV, Tree.kid, plainB, listT, atomT, Tree.list, Tree.kids, Tree.hinted, Tree.data, h2]
      rw [e1, e2, e3, e4]
      rfl
    · have h2 : d.length = 64 := by simpa [keyMay] using h1
      have e1 : headB (keyV true d) tHash = true := by simp [keyV, headB, isB, listT, atomT, Tree.list, Tree.kids, Tree.hinted, Tree.data]
      have e3 : isB ((keyV true d).kid 1) tSha = true := by simp [keyV, Tree.kid, isB, listT, atomT, Tree.list, Tree.kids, Tree.hinted, Tree.data]
      have e4 : plainB ((keyV true d).kid 2) 64 = true := by simp [keyV, Tree.kid, plainB, listT, atomT, Tree.list, Tree.kids, Tree.hinted, Tree.data, h2]
      rw [e1, e3, e4]
      rfl
theorem rgetK_eq {v : Tree} (hv : v.clean = true) : rgetK v = getK v := by
  cases h : getK v with
  | some k => exact (rgetK_iff hv).2 (getK_iff.1 h)
  | none =>
    cases h' : rgetK v with
    | none => rfl
    | some k =>
      have := getK_iff.2 ((rgetK_iff (s := k.1) (d := k.2) hv).1 h')
      rw [h] at this
      cases this
end Go.Proofs.YtdakeodebgggfaaDoor

/- Principals: the program's functions, and the reference's. -/
namespace Go.Proofs.YtdakeodebgggfaaDoor
open Go.RowKit
set_option linter.unusedVariables false
set_option linter.unusedSimpArgs false
set_option maxRecDepth 100000
set_option maxHeartbeats 2000000
theorem bytes_of {n : Nat} {l : List UInt8} : (⟨l.toArray⟩ : ByteArray).toList = l := ba_list
@[go_sem] def keyC (s : Bool) (d : List UInt8) : List D := [.v (.bool s), bytesD d]
theorem kmay_m {G : Nat → Option (List D)} (s : Bool) (d : List UInt8) : Spec Tryd.prog G 17 [.g (keyC s d)] (.one (.c (.v (.bool (keyMay s d))))) := by
  refine spec_of Tryd.func17 rfl rfl rfl (by kernel_rfl) rfl fun K => ?_
  cases s <;> (repeat' (first | with_reducible refine sound_seq_k fun Kn hK => ?_ | with_reducible refine sound_region (by kernel_rfl) ?_ | with_reducible refine sound_drawn (by kernel_rfl) (by kernel_rfl) ?_ | with_reducible refine sound_block ?_ | with_reducible refine sound_if ?_ | with_reducible refine sound_ret ?_ | with_reducible refine sound_skip ?_ | with_reducible refine sound_exit ?_ | (with_reducible refine hK _ ?_; clear hK; clear Kn) | (clear hK; clear Kn; with_reducible refine hK _ ?_; clear hK; clear Kn) | (clear hK; clear Kn; clear hK; clear Kn; with_reducible refine hK _ ?_; clear hK; clear Kn) | fail | with_reducible refine ex_bytes ?_ | with_reducible refine loopU_step ?_ | with_reducible refine retO_ret ?_ ?_ | with_reducible refine retO_normal ?_ ?_ | with_reducible refine And.intro (show logOk _ _ = true by kernel_rfl) ?_ | simp (maxSteps := 10000000) (implicitDefEqProofs := false) (disch := omega) only [wrap_id, wrap8, max_r, max_l, min_r, min_l] | (with_reducible refine br_intro (fun hb => ?_) (fun hb => ?_) <;> (try simp only [hb])) | (with_reducible refine And.intro (by first | omega | (simp; done) | (simp; omega)) ?_) | simp (maxSteps := 10000000) (implicitDefEqProofs := false) only [go_sem, Nat.reduceEqDiff, Nat.reduceBEq, ↓reduceIte, Nat.reduceAdd, Nat.reduceMul, Nat.reduceSub, Nat.reduceLeDiff, Nat.reduceLT, reduceCtorEq, Int.reduceLE, Int.reduceLT, Int.reduceToNat, Int.reduceBEq, int_beqL] | fail))
  all_goals (rw [keyMay]; rfl)
theorem rkmay_m {G : Nat → Option (List D)} (s : Bool) (d : List UInt8) : Spec Tryd.prog G 16 [.g (keyC s d)] (.one (.c (.v (.bool (keyMay s d))))) := by
  refine spec_of Tryd.func16 rfl rfl rfl (by kernel_rfl) rfl fun K => ?_
  cases s <;> (repeat' (first | with_reducible refine sound_seq_k fun Kn hK => ?_ | with_reducible refine sound_region (by kernel_rfl) ?_ | with_reducible refine sound_drawn (by kernel_rfl) (by kernel_rfl) ?_ | with_reducible refine sound_block ?_ | with_reducible refine sound_if ?_ | with_reducible refine sound_ret ?_ | with_reducible refine sound_skip ?_ | with_reducible refine sound_exit ?_ | (with_reducible refine hK _ ?_; clear hK; clear Kn) | (clear hK; clear Kn; with_reducible refine hK _ ?_; clear hK; clear Kn) | (clear hK; clear Kn; clear hK; clear Kn; with_reducible refine hK _ ?_; clear hK; clear Kn) | fail | with_reducible refine ex_bytes ?_ | with_reducible refine loopU_step ?_ | with_reducible refine retO_ret ?_ ?_ | with_reducible refine retO_normal ?_ ?_ | with_reducible refine And.intro (show logOk _ _ = true by kernel_rfl) ?_ | simp (maxSteps := 10000000) (implicitDefEqProofs := false) (disch := omega) only [wrap_id, wrap8, max_r, max_l, min_r, min_l] | (with_reducible refine br_intro (fun hb => ?_) (fun hb => ?_) <;> (try simp only [hb])) | (with_reducible refine And.intro (by first | omega | (simp; done) | (simp; omega)) ?_) | simp (maxSteps := 10000000) (implicitDefEqProofs := false) only [go_sem, Nat.reduceEqDiff, Nat.reduceBEq, ↓reduceIte, Nat.reduceAdd, Nat.reduceMul, Nat.reduceSub, Nat.reduceLeDiff, Nat.reduceLT, reduceCtorEq, Int.reduceLE, Int.reduceLT, Int.reduceToNat, Int.reduceBEq, int_beqL] | fail))
  all_goals (rw [keyMay]; first | rfl | (simp only [*]; rfl))
theorem rksame_m {G : Nat → Option (List D)} (s s' : Bool) (d d' : List UInt8) : Spec Tryd.prog G 21 [.g (keyC s d), .g (keyC s' d')] (.one (.c (.v (.bool (s == s' && d == d'))))) := by
  refine spec_of Tryd.func21 rfl rfl rfl (by kernel_rfl) rfl fun K => ?_
  (repeat' (first | with_reducible refine sound_seq_k fun Kn hK => ?_ | with_reducible refine sound_region (by kernel_rfl) ?_ | with_reducible refine sound_drawn (by kernel_rfl) (by kernel_rfl) ?_ | with_reducible refine sound_block ?_ | with_reducible refine sound_if ?_ | with_reducible refine sound_ret ?_ | with_reducible refine sound_skip ?_ | with_reducible refine sound_exit ?_ | (with_reducible refine hK _ ?_; clear hK; clear Kn) | (clear hK; clear Kn; with_reducible refine hK _ ?_; clear hK; clear Kn) | (clear hK; clear Kn; clear hK; clear Kn; with_reducible refine hK _ ?_; clear hK; clear Kn) | fail | with_reducible refine ex_bytes ?_ | with_reducible refine loopU_step ?_ | with_reducible refine retO_ret ?_ ?_ | with_reducible refine retO_normal ?_ ?_ | with_reducible refine And.intro (show logOk _ _ = true by kernel_rfl) ?_ | simp (maxSteps := 10000000) (implicitDefEqProofs := false) (disch := omega) only [wrap_id, wrap8, max_r, max_l, min_r, min_l] | (with_reducible refine br_intro (fun hb => ?_) (fun hb => ?_) <;> (try simp only [hb])) | (with_reducible refine And.intro (by first | omega | (simp; done) | (simp; omega)) ?_) | simp (maxSteps := 10000000) (implicitDefEqProofs := false) only [go_sem, Nat.reduceEqDiff, Nat.reduceBEq, ↓reduceIte, Nat.reduceAdd, Nat.reduceMul, Nat.reduceSub, Nat.reduceLeDiff, Nat.reduceLT, reduceCtorEq, Int.reduceLE, Int.reduceLT, Int.reduceToNat, Int.reduceBEq, true_and] | fail))
  all_goals simp_all
theorem ksame_m {G : Nat → Option (List D)} (s s' : Bool) (d d' : List UInt8) : Spec Tryd.prog G 28 [.g (keyC s d), .g (keyC s' d')] (.one (.c (.v (.bool (s == s' && d == d'))))) := by
  refine spec_of Tryd.func28 rfl rfl rfl (by kernel_rfl) rfl fun K => ?_
  (repeat' (first | with_reducible refine sound_seq_k fun Kn hK => ?_ | with_reducible refine sound_region (by kernel_rfl) ?_ | with_reducible refine sound_drawn (by kernel_rfl) (by kernel_rfl) ?_ | with_reducible refine sound_block ?_ | with_reducible refine sound_if ?_ | with_reducible refine sound_ret ?_ | with_reducible refine sound_skip ?_ | with_reducible refine sound_exit ?_ | (with_reducible refine hK _ ?_; clear hK; clear Kn) | (clear hK; clear Kn; with_reducible refine hK _ ?_; clear hK; clear Kn) | (clear hK; clear Kn; clear hK; clear Kn; with_reducible refine hK _ ?_; clear hK; clear Kn) | (refine ⟨_, equal_m d d', ?_⟩) | with_reducible refine ex_bytes ?_ | with_reducible refine loopU_step ?_ | with_reducible refine retO_ret ?_ ?_ | with_reducible refine retO_normal ?_ ?_ | with_reducible refine And.intro (show logOk _ _ = true by kernel_rfl) ?_ | simp (maxSteps := 10000000) (implicitDefEqProofs := false) (disch := omega) only [wrap_id, wrap8, max_r, max_l, min_r, min_l] | (with_reducible refine br_intro (fun hb => ?_) (fun hb => ?_) <;> (try simp only [hb])) | (with_reducible refine And.intro (by first | omega | (simp; done) | (simp; omega)) ?_) | simp (maxSteps := 10000000) (implicitDefEqProofs := false) only [go_sem, Nat.reduceEqDiff, Nat.reduceBEq, ↓reduceIte, Nat.reduceAdd, Nat.reduceMul, Nat.reduceSub, Nat.reduceLeDiff, Nat.reduceLT, reduceCtorEq, Int.reduceLE, Int.reduceLT, Int.reduceToNat, Int.reduceBEq, true_and] | fail))
  all_goals simp_all
theorem plain_m {G : Nat → Option (List D)} (t : Tree) {cs : List D} (hcs : treeC t = cs) (n : Nat) : Spec Tryd.prog G 48 [.g cs, .c (.v (.int .i64 n))] (.one (.c (.v (.bool (plainB t n))))) := by
  subst hcs
  refine spec_of Tryd.func48 rfl rfl rfl (by kernel_rfl) rfl fun K => ?_
  rw [treeC_eq]
  (repeat' (first | with_reducible refine sound_seq_k fun Kn hK => ?_ | with_reducible refine sound_region (by kernel_rfl) ?_ | with_reducible refine sound_drawn (by kernel_rfl) (by kernel_rfl) ?_ | with_reducible refine sound_block ?_ | with_reducible refine sound_if ?_ | with_reducible refine sound_ret ?_ | with_reducible refine sound_skip ?_ | with_reducible refine sound_exit ?_ | (with_reducible refine hK _ ?_; clear hK; clear Kn) | (clear hK; clear Kn; with_reducible refine hK _ ?_; clear hK; clear Kn) | (clear hK; clear Kn; clear hK; clear Kn; with_reducible refine hK _ ?_; clear hK; clear Kn) | fail | with_reducible refine ex_bytes ?_ | with_reducible refine loopU_step ?_ | with_reducible refine retO_ret ?_ ?_ | with_reducible refine retO_normal ?_ ?_ | with_reducible refine And.intro (show logOk _ _ = true by kernel_rfl) ?_ | simp (maxSteps := 10000000) (implicitDefEqProofs := false) (disch := omega) only [wrap_id, wrap8, max_r, max_l, min_r, min_l] | (with_reducible refine br_intro (fun hb => ?_) (fun hb => ?_) <;> (try simp only [hb])) | (with_reducible refine And.intro (by first | omega | (simp; done) | (simp; omega)) ?_) | simp (maxSteps := 10000000) (implicitDefEqProofs := false) only [go_sem, Nat.reduceEqDiff, Nat.reduceBEq, ↓reduceIte, Nat.reduceAdd, Nat.reduceMul, Nat.reduceSub, Nat.reduceLeDiff, Nat.reduceLT, reduceCtorEq, Int.reduceLE, Int.reduceLT, Int.reduceToNat, Int.reduceBEq, int_beq] | fail))
  all_goals (rw [plainB]; simp_all)
theorem value_m {G : Nat → Option (List D)} (s : Bool) (d : List UInt8) (hd : d.length ≤ 1000000000) : Spec Tryd.prog G 20 [.g (keyC s d)] (.one (.g (treeC (keyV s d)))) := by
  refine spec_of Tryd.func20 rfl rfl rfl (by kernel_rfl) rfl fun K => ?_
  cases s <;> (repeat' (first | with_reducible refine sound_seq_k fun Kn hK => ?_ | with_reducible refine sound_region (by kernel_rfl) ?_ | with_reducible refine sound_drawn (by kernel_rfl) (by kernel_rfl) ?_ | with_reducible refine sound_block ?_ | with_reducible refine sound_if ?_ | with_reducible refine sound_ret ?_ | with_reducible refine sound_skip ?_ | with_reducible refine sound_exit ?_ | (with_reducible refine hK _ ?_; clear hK; clear Kn) | (clear hK; clear Kn; with_reducible refine hK _ ?_; clear hK; clear Kn) | (clear hK; clear Kn; clear hK; clear Kn; with_reducible refine hK _ ?_; clear hK; clear Kn) | (refine ⟨_, atomref_m tHash (by decide), ?_⟩) | (refine ⟨_, atomref_m tSha (by decide), ?_⟩) | (refine ⟨_, atomref_m tPub (by decide), ?_⟩) | (refine ⟨_, atomref_m tEd (by decide), ?_⟩) | with_reducible refine ex_bytes ?_ | with_reducible refine loopU_step ?_ | with_reducible refine retO_ret ?_ ?_ | with_reducible refine retO_normal ?_ ?_ | with_reducible refine And.intro (show logOk _ _ = true by kernel_rfl) ?_ | simp (maxSteps := 10000000) (implicitDefEqProofs := false) (disch := omega) only [wrap_id, wrap8, max_r, max_l, min_r, min_l] | (with_reducible refine br_intro (fun hb => ?_) (fun hb => ?_) <;> (try simp only [hb])) | (with_reducible refine And.intro (by first | omega | (simp; done) | (simp; omega)) ?_) | simp (maxSteps := 10000000) (implicitDefEqProofs := false) only [go_sem, Nat.reduceEqDiff, Nat.reduceBEq, ↓reduceIte, Nat.reduceAdd, Nat.reduceMul, Nat.reduceSub, Nat.reduceLeDiff, Nat.reduceLT, reduceCtorEq, Int.reduceLE, Int.reduceLT, Int.reduceToNat, Int.reduceBEq, treeC_mk] | fail))
  all_goals (simp only [keyV, ↓reduceIte, Bool.false_eq_true, listT, atomT, treeC_mk, List.flatMap_cons, List.flatMap_nil]; rfl)
theorem treeC_nil {n : Nat} {cs : List D} {l : List Tree} (hn : n = l.length) (hc : cs = l.flatMap treeC) : D.sl n cs = D.sl l.length (l.flatMap treeC) := by rw [hn, hc]
theorem list_m' {G : Nat → Option (List D)} (l : List Tree) {n : Nat} {cs : List D} (hn : n = l.length) (hc : cs = l.flatMap treeC) (hl : l.length ≤ 100000000) : Spec Tryd.prog G 42 [.c (.sl n cs)] (.one (.g (treeC (listT l)))) := by
  subst hn hc
  exact list_m l hl
theorem kput_m {G : Nat → Option (List D)} (s : Bool) (d : List UInt8) (hd : d.length ≤ 1000000000) : Spec Tryd.prog G 15 [.g (keyC s d)] (.many [.g (treeC (keyOut s d)), .c (.v (.int .i64 (keyErr s d)))]) := by
  refine spec_of Tryd.func15 rfl rfl rfl (by kernel_rfl) rfl fun K => ?_
  cases hm : keyMay s d with
  | false =>
    (repeat' (first | with_reducible refine sound_seq_k fun Kn hK => ?_ | with_reducible refine sound_region (by kernel_rfl) ?_ | with_reducible refine sound_drawn (by kernel_rfl) (by kernel_rfl) ?_ | with_reducible refine sound_block ?_ | with_reducible refine sound_if ?_ | with_reducible refine sound_ret ?_ | with_reducible refine sound_skip ?_ | with_reducible refine sound_exit ?_ | (with_reducible refine hK _ ?_; clear hK; clear Kn) | (clear hK; clear Kn; with_reducible refine hK _ ?_; clear hK; clear Kn) | (clear hK; clear Kn; clear hK; clear Kn; with_reducible refine hK _ ?_; clear hK; clear Kn) | (refine ⟨none, ?_⟩) | (refine ⟨_, bclone_m d (by omega), ?_⟩) | (refine ⟨_, kmay_m s d, ?_⟩) | with_reducible refine ex_bytes ?_ | with_reducible refine loopU_step ?_ | with_reducible refine retO_ret ?_ ?_ | with_reducible refine retO_normal ?_ ?_ | with_reducible refine And.intro (show logOk _ _ = true by kernel_rfl) ?_ | simp (maxSteps := 10000000) (implicitDefEqProofs := false) (disch := omega) only [wrap_id, wrap8, max_r, max_l, min_r, min_l] | (with_reducible refine br_intro (fun hb => ?_) (fun hb => ?_) <;> (try simp only [hb])) | (with_reducible refine And.intro (by first | omega | (simp; done) | (simp; omega)) ?_) | simp (maxSteps := 10000000) (implicitDefEqProofs := false) only [go_sem, Nat.reduceEqDiff, Nat.reduceBEq, ↓reduceIte, Nat.reduceAdd, Nat.reduceMul, Nat.reduceSub, Nat.reduceLeDiff, Nat.reduceLT, reduceCtorEq, Int.reduceLE, Int.reduceLT, Int.reduceToNat, Int.reduceBEq, hm] | fail))
    all_goals (rw [keyOut, keyErr, hm]; simp only [↓reduceIte, Bool.false_eq_true, zeroT, treeC_mk]; rfl)
  | true =>
    cases s with
    | false =>
      (repeat' (first | with_reducible refine sound_seq_k fun Kn hK => ?_ | with_reducible refine sound_region (by kernel_rfl) ?_ | with_reducible refine sound_drawn (by kernel_rfl) (by kernel_rfl) ?_ | with_reducible refine sound_block ?_ | with_reducible refine sound_if ?_ | with_reducible refine sound_ret ?_ | with_reducible refine sound_skip ?_ | with_reducible refine sound_exit ?_ | (with_reducible refine hK _ ?_; clear hK; clear Kn) | (clear hK; clear Kn; with_reducible refine hK _ ?_; clear hK; clear Kn) | (clear hK; clear Kn; clear hK; clear Kn; with_reducible refine hK _ ?_; clear hK; clear Kn) | (refine ⟨none, ?_⟩) | (refine ⟨_, bclone_m d (by omega), ?_⟩) | (refine ⟨_, kmay_m false d, ?_⟩) | (refine ⟨_, atom_m tPub (by decide), ?_⟩) | (refine ⟨_, atom_m tEd (by decide), ?_⟩) | (refine ⟨_, list_m' [atomT tEd, atomT d] (by rfl) (by first | (simp only [atomT, listT, List.flatMap_cons, List.flatMap_nil, treeC_mk, bytesD, List.cons_append, List.nil_append, List.length_cons, List.length_nil, List.map_nil, Nat.reduceAdd, List.append_nil]; done) | (simp only [atomT, listT, List.flatMap_cons, List.flatMap_nil, treeC_mk, bytesD, List.cons_append, List.nil_append, List.length_cons, List.length_nil, List.map_nil, Nat.reduceAdd, List.append_nil]; rfl)) (by simp), ?_⟩) | (refine ⟨_, list_m' [atomT tPub, listT [atomT tEd, atomT d] ] (by rfl) (by first | (simp only [atomT, listT, List.flatMap_cons, List.flatMap_nil, treeC_mk, bytesD, List.cons_append, List.nil_append, List.length_cons, List.length_nil, List.map_nil, Nat.reduceAdd, List.append_nil]; done) | (simp only [atomT, listT, List.flatMap_cons, List.flatMap_nil, treeC_mk, bytesD, List.cons_append, List.nil_append, List.length_cons, List.length_nil, List.map_nil, Nat.reduceAdd, List.append_nil]; rfl)) (by simp), ?_⟩) | with_reducible refine ex_bytes ?_ | with_reducible refine loopU_step ?_ | with_reducible refine retO_ret ?_ ?_ | with_reducible refine retO_normal ?_ ?_ | with_reducible refine And.intro (show logOk _ _ = true by kernel_rfl) ?_ | simp (maxSteps := 10000000) (implicitDefEqProofs := false) (disch := omega) only [wrap_id, wrap8, max_r, max_l, min_r, min_l] | (with_reducible refine br_intro (fun hb => ?_) (fun hb => ?_) <;> (try simp only [hb])) | (with_reducible refine And.intro (by first | omega | (simp; done) | (simp; omega)) ?_) | simp (maxSteps := 10000000) (implicitDefEqProofs := false) only [go_sem, Nat.reduceEqDiff, Nat.reduceBEq, ↓reduceIte, Nat.reduceAdd, Nat.reduceMul, Nat.reduceSub, Nat.reduceLeDiff, Nat.reduceLT, reduceCtorEq, Int.reduceLE, Int.reduceLT, Int.reduceToNat, Int.reduceBEq, hm, treeC_mk, atomT, listT] | fail))
      all_goals (simp only [keyOut, keyErr, hm, keyV, ↓reduceIte, Bool.false_eq_true, listT, atomT, treeC_mk, List.flatMap_cons, List.flatMap_nil]; rfl)
    | true =>
      (repeat' (first | with_reducible refine sound_seq_k fun Kn hK => ?_ | with_reducible refine sound_region (by kernel_rfl) ?_ | with_reducible refine sound_drawn (by kernel_rfl) (by kernel_rfl) ?_ | with_reducible refine sound_block ?_ | with_reducible refine sound_if ?_ | with_reducible refine sound_ret ?_ | with_reducible refine sound_skip ?_ | with_reducible refine sound_exit ?_ | (with_reducible refine hK _ ?_; clear hK; clear Kn) | (clear hK; clear Kn; with_reducible refine hK _ ?_; clear hK; clear Kn) | (clear hK; clear Kn; clear hK; clear Kn; with_reducible refine hK _ ?_; clear hK; clear Kn) | (refine ⟨none, ?_⟩) | (refine ⟨_, bclone_m d (by omega), ?_⟩) | (refine ⟨_, kmay_m true d, ?_⟩) | (refine ⟨_, atom_m tHash (by decide), ?_⟩) | (refine ⟨_, atom_m tSha (by decide), ?_⟩) | (refine ⟨_, list_m' [atomT tHash, atomT tSha, atomT d] (by rfl) (by first | (simp only [atomT, listT, List.flatMap_cons, List.flatMap_nil, treeC_mk, bytesD, List.cons_append, List.nil_append, List.length_cons, List.length_nil, List.map_nil, Nat.reduceAdd, List.append_nil]; done) | (simp only [atomT, listT, List.flatMap_cons, List.flatMap_nil, treeC_mk, bytesD, List.cons_append, List.nil_append, List.length_cons, List.length_nil, List.map_nil, Nat.reduceAdd, List.append_nil]; rfl)) (by simp), ?_⟩) | with_reducible refine ex_bytes ?_ | with_reducible refine loopU_step ?_ | with_reducible refine retO_ret ?_ ?_ | with_reducible refine retO_normal ?_ ?_ | with_reducible refine And.intro (show logOk _ _ = true by kernel_rfl) ?_ | simp (maxSteps := 10000000) (implicitDefEqProofs := false) (disch := omega) only [wrap_id, wrap8, max_r, max_l, min_r, min_l] | (with_reducible refine br_intro (fun hb => ?_) (fun hb => ?_) <;> (try simp only [hb])) | (with_reducible refine And.intro (by first | omega | (simp; done) | (simp; omega)) ?_) | simp (maxSteps := 10000000) (implicitDefEqProofs := false) only [go_sem, Nat.reduceEqDiff, Nat.reduceBEq, ↓reduceIte, Nat.reduceAdd, Nat.reduceMul, Nat.reduceSub, Nat.reduceLeDiff, Nat.reduceLT, reduceCtorEq, Int.reduceLE, Int.reduceLT, Int.reduceToNat, Int.reduceBEq, hm, treeC_mk, atomT, listT] | fail))
      all_goals (simp only [keyOut, keyErr, hm, keyV, ↓reduceIte, Bool.false_eq_true, listT, atomT, treeC_mk, List.flatMap_cons, List.flatMap_nil]; rfl)
end Go.Proofs.YtdakeodebgggfaaDoor

/- Principals got of values. -/
namespace Go.Proofs.YtdakeodebgggfaaDoor
open Go.RowKit
set_option linter.unusedVariables false
set_option linter.unusedSimpArgs false
set_option maxRecDepth 100000
set_option maxHeartbeats 2000000
theorem rep_1 {α : Type} {x : α} : List.replicate 1 x = [x] := rfl
def keyOr (k : Option (Bool × List UInt8)) : Bool × List UInt8 := k.getD (false, [])
@[go_sem] def keyD (k : Option (Bool × List UInt8)) : List D := keyC (keyOr k).1 (keyOr k).2
theorem Tree.kid_get {t : Tree} {i : Nat} (h : i < t.kids.length) : t.kids[i]? = some (t.kid i) := by
  rw [Tree.kid_at (List.getElem?_eq_getElem h)]
  exact List.getElem?_eq_getElem h
theorem kid_wtT {t : Tree} {i : Nat} (h : i < t.kids.length) : (t.kid i).wt < t.wt := by
  have : t.kid i = t.kids[i] := Tree.kid_at (List.getElem?_eq_getElem h)
  rw [this]
  exact Tree.wt_kid (List.getElem_mem h)
theorem out_wt {s : Bool} {d : List UInt8} : (keyOut s d).wt ≤ 200 + d.length := by
  unfold keyOut
  split
  · cases s <;> simp [keyV, Tree.wt_eq, listT, atomT, Tree.hint, Tree.data, Tree.kids, tHash, tSha, tPub, tEd] <;> omega
  · simp [zeroT, Tree.wt_eq, Tree.hint, Tree.data, Tree.kids]
    omega
theorem kget_m {G : Nat → Option (List D)} (v : Tree) {cs : List D} (hcs : treeC v = cs) (hw : v.wt ≤ 10000000) : Spec Tryd.prog G 19 [.g cs] (.many [.g (keyD (getK v)), .c (.v (.int .i64 (if (getK v).isSome then 0 else 7)))]) := by
  subst hcs
  refine spec_of Tryd.func19 rfl rfl rfl (by kernel_rfl) rfl fun K => ?_
  rw [treeC_eq]
  have hg : getK v = match candK v with
    | some k => if keyErr k.1 k.2 == 0 && v.same (keyOut k.1 k.2) then some k else none
    | none => none := rfl
  by_cases h3 : v.kids.length = 3
  · have hk2 := kid_wtT (t := v) (i := 2) (by omega)
    have hd2 := (v.kid 2).wt_data
    have hc : candK v = some (true, (v.kid 2).data) := by rw [candK, h3]; rfl
    rw [hc] at hg
    dsimp only at hg
    have e0 : v.kids[2]? = some (v.kid 2) := Tree.kid_get (by omega)
    have e1 := ptr_cells (flat_at treeC_len e0)
    simp only [Nat.reduceMul, Nat.reduceAdd] at e1
    obtain ⟨_, _, _, c3, _⟩ := e1
    have n0 : ((0 : Nat) : Int) = 0 := rfl
    have n1 : ((1 : Nat) : Int) = 1 := rfl
    have n3 : ((3 : Nat) : Int) = 3 := rfl
    (repeat' (first | with_reducible refine sound_seq_k fun Kn hK => ?_ | with_reducible refine sound_region (by kernel_rfl) ?_ | with_reducible refine sound_drawn (by kernel_rfl) (by kernel_rfl) ?_ | with_reducible refine sound_block ?_ | with_reducible refine sound_if ?_ | with_reducible refine sound_ret ?_ | with_reducible refine sound_skip ?_ | with_reducible refine sound_exit ?_ | (with_reducible refine hK _ ?_; clear hK; clear Kn) | (clear hK; clear Kn; with_reducible refine hK _ ?_; clear hK; clear Kn) | (clear hK; clear Kn; clear hK; clear Kn; with_reducible refine hK _ ?_; clear hK; clear Kn) | (refine ⟨_, bclone_m (v.kid 2).data (by omega), ?_⟩) | (refine sound_loopN 2 ?_) | (refine ⟨_, kput_m true (v.kid 2).data (by omega), ?_⟩) | (refine ⟨_, same_m v (keyOut true (v.kid 2).data) _ _ (by first | rfl | (rw [treeC_eq]; first | rfl | (simp only [go_sem, *]; done))) rfl hw, ?_⟩) | with_reducible refine ex_bytes ?_ | with_reducible refine loopU_step ?_ | with_reducible refine retO_ret ?_ ?_ | with_reducible refine retO_normal ?_ ?_ | with_reducible refine And.intro (show logOk _ _ = true by kernel_rfl) ?_ | simp (maxSteps := 10000000) (implicitDefEqProofs := false) (disch := omega) only [wrap_id, wrap8, max_r, max_l, min_r, min_l] | (with_reducible refine br_intro (fun hb => ?_) (fun hb => ?_) <;> (try simp only [hb])) | (with_reducible refine And.intro (by first | omega | (simp; done) | (simp; omega)) ?_) | simp (maxSteps := 10000000) (implicitDefEqProofs := false) only [go_sem, Nat.reduceEqDiff, Nat.reduceBEq, ↓reduceIte, Nat.reduceAdd, Nat.reduceMul, Nat.reduceSub, Nat.reduceLeDiff, Nat.reduceLT, reduceCtorEq, Int.reduceLE, Int.reduceLT, Int.reduceToNat, Int.reduceBEq, h3, c3, rep_1, keyMay_err, List.length_map, n0, n1, n3, int_beqL, Nat.reduceMul, decide_true, decide_false, Int.reduceAdd] | fail))
    all_goals (rw [hg, keyMay_err]; simp only [*]; rfl)
  have n0 : ((0 : Nat) : Int) = 0 := rfl
  have n1 : ((1 : Nat) : Int) = 1 := rfl
  have n3 : (v.kids.length == 3) = false := by simpa using h3
  have hc0 : candK v = if v.kids.length == 2 && (v.kid 1).kids.length == 2 then some (false, ((v.kid 1).kid 1).data) else none := by rw [candK, n3]; rfl
  by_cases h2 : v.kids.length = 2
  · have hk1 := kid_wtT (t := v) (i := 1) (by omega)
    have e0 : v.kids[1]? = some (v.kid 1) := Tree.kid_get (by omega)
    have e1 := ptr_cells (flat_at treeC_len e0)
    simp only [Nat.reduceMul, Nat.reduceAdd] at e1
    obtain ⟨_, _, _, _, c4⟩ := e1
    by_cases h4 : (v.kid 1).kids.length = 2
    · have hk3 := kid_wtT (t := v.kid 1) (i := 1) (by omega)
      have hd2 := ((v.kid 1).kid 1).wt_data
      have e0 : (v.kid 1).kids[1]? = some ((v.kid 1).kid 1) := Tree.kid_get (by omega)
      have e1 := ptr_cells (flat_at treeC_len e0)
      simp only [Nat.reduceMul, Nat.reduceAdd] at e1
      obtain ⟨_, _, _, c3, _⟩ := e1
      have hc : candK v = some (false, ((v.kid 1).kid 1).data) := by rw [hc0, h2, h4]; rfl
      rw [hc] at hg
      dsimp only at hg
      (repeat' (first | with_reducible refine sound_seq_k fun Kn hK => ?_ | with_reducible refine sound_region (by kernel_rfl) ?_ | with_reducible refine sound_drawn (by kernel_rfl) (by kernel_rfl) ?_ | with_reducible refine sound_block ?_ | with_reducible refine sound_if ?_ | with_reducible refine sound_ret ?_ | with_reducible refine sound_skip ?_ | with_reducible refine sound_exit ?_ | (with_reducible refine hK _ ?_; clear hK; clear Kn) | (clear hK; clear Kn; with_reducible refine hK _ ?_; clear hK; clear Kn) | (clear hK; clear Kn; clear hK; clear Kn; with_reducible refine hK _ ?_; clear hK; clear Kn) | (refine ⟨_, bclone_m ((v.kid 1).kid 1).data (by omega), ?_⟩) | (refine sound_loopN 2 ?_) | (refine ⟨_, kput_m false ((v.kid 1).kid 1).data (by omega), ?_⟩) | (refine ⟨_, same_m v (keyOut false ((v.kid 1).kid 1).data) _ _ (by first | rfl | (rw [treeC_eq]; first | rfl | (simp only [go_sem, *]; done))) rfl hw, ?_⟩) | with_reducible refine ex_bytes ?_ | with_reducible refine loopU_step ?_ | with_reducible refine retO_ret ?_ ?_ | with_reducible refine retO_normal ?_ ?_ | with_reducible refine And.intro (show logOk _ _ = true by kernel_rfl) ?_ | simp (maxSteps := 10000000) (implicitDefEqProofs := false) (disch := omega) only [wrap_id, wrap8, max_r, max_l, min_r, min_l] | (with_reducible refine br_intro (fun hb => ?_) (fun hb => ?_) <;> (try simp only [hb])) | (with_reducible refine And.intro (by first | omega | (simp; done) | (simp; omega)) ?_) | simp (maxSteps := 10000000) (implicitDefEqProofs := false) only [go_sem, Nat.reduceEqDiff, Nat.reduceBEq, ↓reduceIte, Nat.reduceAdd, Nat.reduceMul, Nat.reduceSub, Nat.reduceLeDiff, Nat.reduceLT, reduceCtorEq, Int.reduceLE, Int.reduceLT, Int.reduceToNat, Int.reduceBEq, h2, h4, c3, c4, rep_1, keyMay_err, List.length_map, n0, n1, n3, int_beqL, Nat.reduceMul, decide_true, decide_false, Int.reduceAdd] | fail))
      all_goals (rw [hg]; simp only [keyMay_err, *]; rfl)
    · have n4 : ((v.kid 1).kids.length == 2) = false := by simpa using h4
      have hc : candK v = none := by rw [hc0, h2, n4]; rfl
      rw [hc] at hg
      dsimp only at hg
      (repeat' (first | with_reducible refine sound_seq_k fun Kn hK => ?_ | with_reducible refine sound_region (by kernel_rfl) ?_ | with_reducible refine sound_drawn (by kernel_rfl) (by kernel_rfl) ?_ | with_reducible refine sound_block ?_ | with_reducible refine sound_if ?_ | with_reducible refine sound_ret ?_ | with_reducible refine sound_skip ?_ | with_reducible refine sound_exit ?_ | (with_reducible refine hK _ ?_; clear hK; clear Kn) | (clear hK; clear Kn; with_reducible refine hK _ ?_; clear hK; clear Kn) | (clear hK; clear Kn; clear hK; clear Kn; with_reducible refine hK _ ?_; clear hK; clear Kn) | (refine sound_loopN 1 ?_) | with_reducible refine ex_bytes ?_ | with_reducible refine loopU_step ?_ | with_reducible refine retO_ret ?_ ?_ | with_reducible refine retO_normal ?_ ?_ | with_reducible refine And.intro (show logOk _ _ = true by kernel_rfl) ?_ | simp (maxSteps := 10000000) (implicitDefEqProofs := false) (disch := omega) only [wrap_id, wrap8, max_r, max_l, min_r, min_l] | (with_reducible refine br_intro (fun hb => ?_) (fun hb => ?_) <;> (try simp only [hb])) | (with_reducible refine And.intro (by first | omega | (simp; done) | (simp; omega)) ?_) | simp (maxSteps := 10000000) (implicitDefEqProofs := false) only [go_sem, Nat.reduceEqDiff, Nat.reduceBEq, ↓reduceIte, Nat.reduceAdd, Nat.reduceMul, Nat.reduceSub, Nat.reduceLeDiff, Nat.reduceLT, reduceCtorEq, Int.reduceLE, Int.reduceLT, Int.reduceToNat, Int.reduceBEq, h2, int_beq, n4, c4, rep_1, keyMay_err, List.length_map, n0, n1, n3, int_beqL, Nat.reduceMul, decide_true, decide_false, Int.reduceAdd] | fail))
      all_goals (rw [hg]; rfl)
  · have n2 : (v.kids.length == 2) = false := by simpa using h2
    have hc : candK v = none := by rw [hc0, n2]; rfl
    rw [hc] at hg
    dsimp only at hg
    (repeat' (first | with_reducible refine sound_seq_k fun Kn hK => ?_ | with_reducible refine sound_region (by kernel_rfl) ?_ | with_reducible refine sound_drawn (by kernel_rfl) (by kernel_rfl) ?_ | with_reducible refine sound_block ?_ | with_reducible refine sound_if ?_ | with_reducible refine sound_ret ?_ | with_reducible refine sound_skip ?_ | with_reducible refine sound_exit ?_ | (with_reducible refine hK _ ?_; clear hK; clear Kn) | (clear hK; clear Kn; with_reducible refine hK _ ?_; clear hK; clear Kn) | (clear hK; clear Kn; clear hK; clear Kn; with_reducible refine hK _ ?_; clear hK; clear Kn) | (refine sound_loopN 1 ?_) | with_reducible refine ex_bytes ?_ | with_reducible refine loopU_step ?_ | with_reducible refine retO_ret ?_ ?_ | with_reducible refine retO_normal ?_ ?_ | with_reducible refine And.intro (show logOk _ _ = true by kernel_rfl) ?_ | simp (maxSteps := 10000000) (implicitDefEqProofs := false) (disch := omega) only [wrap_id, wrap8, max_r, max_l, min_r, min_l] | (with_reducible refine br_intro (fun hb => ?_) (fun hb => ?_) <;> (try simp only [hb])) | (with_reducible refine And.intro (by first | omega | (simp; done) | (simp; omega)) ?_) | simp (maxSteps := 10000000) (implicitDefEqProofs := false) only [go_sem, Nat.reduceEqDiff, Nat.reduceBEq, ↓reduceIte, Nat.reduceAdd, Nat.reduceMul, Nat.reduceSub, Nat.reduceLeDiff, Nat.reduceLT, reduceCtorEq, Int.reduceLE, Int.reduceLT, Int.reduceToNat, Int.reduceBEq, n2, n3, rep_1, keyMay_err, List.length_map, n0, n1, n3, int_beqL, Nat.reduceMul, decide_true, decide_false, Int.reduceAdd] | fail))
    all_goals (rw [hg]; rfl)
end Go.Proofs.YtdakeodebgggfaaDoor

/- Signed values put. -/
namespace Go.Proofs.YtdakeodebgggfaaDoor
open Go.RowKit
set_option linter.unusedVariables false
set_option linter.unusedSimpArgs false
set_option maxRecDepth 100000
set_option maxHeartbeats 2000000
def tSigned : List UInt8 := [115, 105, 103, 110, 101, 100]
def signedT (b : Tree) (p s : List UInt8) : Tree := listT [atomT tSigned, b, keyV false p, atomT s]
def sMay (b : Tree) (p s : List UInt8) : Bool := p.length == 32 && s.length == 64 && (signedT b p s).may
def sOut (b : Tree) (p s : List UInt8) : Tree := if sMay b p s then signedT b p s else zeroT
def sErr (b : Tree) (p s : List UInt8) : Int := if sMay b p s then 0 else 3
@[go_sem] def sgnC (b : Tree) (p s : List UInt8) : List D := treeC b ++ [bytesD p, bytesD s]
theorem signed_wt {b : Tree} {p s : List UInt8} : (signedT b p s).wt ≤ 100 + b.wt + p.length + s.length := by
  simp [signedT, keyV, Tree.wt_eq, listT, atomT, Tree.hint, Tree.data, Tree.kids, tSigned, tPub, tEd]
  omega
theorem sput18_m {G : Nat → Option (List D)} (hG : G 0 = some powD) (b : Tree) (p s : List UInt8) (hw : b.wt ≤ 5000000) (hp : p.length ≤ 1000000) (hs : s.length ≤ 1000000) :
    Spec Tryd.prog G 34 [.g (sgnC b p s)] (.many [.g (treeC (sOut b p s)), .c (.v (.int .i64 (sErr b p s)))]) := by
  have hw2 := signed_wt (b := b) (p := p) (s := s)
  have hb := treeC_eq b
  have hm : sMay b p s = (p.length == 32 && s.length == 64 && (signedT b p s).may) := rfl
  have no : sMay b p s = false → treeC (sOut b p s) = [.v (.bool false), .v (.bool false), .sl 0 [], .sl 0 [], .sl 0 []] ∧ sErr b p s = 3 := fun h => by
    rw [sOut, sErr, h]
    simp only [Bool.false_eq_true, ↓reduceIte, zeroT, treeC_mk]
    exact ⟨rfl, trivial⟩
  refine spec_of Tryd.func34 rfl rfl rfl (by kernel_rfl) rfl fun K => ?_
  cases h1 : p.length == 32 with
  | false =>
    have h2 : keyMay false p = false := h1
    obtain ⟨n1, n2⟩ := no (by rw [hm, h1]; rfl)
    rw [n1, n2]
    (repeat' (first | with_reducible refine sound_seq_k fun Kn hK => ?_ | with_reducible refine sound_region (by kernel_rfl) ?_ | with_reducible refine sound_drawn (by kernel_rfl) (by kernel_rfl) ?_ | with_reducible refine sound_block ?_ | with_reducible refine sound_if ?_ | with_reducible refine sound_ret ?_ | with_reducible refine sound_skip ?_ | with_reducible refine sound_exit ?_ | (with_reducible refine hK _ ?_; clear hK; clear Kn) | (clear hK; clear Kn; with_reducible refine hK _ ?_; clear hK; clear Kn) | (clear hK; clear Kn; clear hK; clear Kn; with_reducible refine hK _ ?_; clear hK; clear Kn) | (refine ⟨_, kput_m false p (by omega), ?_⟩) | with_reducible refine ex_bytes ?_ | with_reducible refine loopU_step ?_ | with_reducible refine retO_ret ?_ ?_ | with_reducible refine retO_normal ?_ ?_ | with_reducible refine And.intro (show logOk _ _ = true by kernel_rfl) ?_ | simp (maxSteps := 10000000) (implicitDefEqProofs := false) (disch := omega) only [wrap_id, wrap8, max_r, max_l, min_r, min_l] | (with_reducible refine br_intro (fun hb => ?_) (fun hb => ?_) <;> (try simp only [hb])) | (with_reducible refine And.intro (by first | omega | (simp; done) | (simp; omega)) ?_) | simp (maxSteps := 10000000) (implicitDefEqProofs := false) only [go_sem, Nat.reduceEqDiff, Nat.reduceBEq, ↓reduceIte, Nat.reduceAdd, Nat.reduceMul, Nat.reduceSub, Nat.reduceLeDiff, Nat.reduceLT, reduceCtorEq, Int.reduceLE, Int.reduceLT, Int.reduceToNat, Int.reduceBEq, hb, keyMay_err, h2, int_beqL, List.length_map] | fail))
  | true =>
    have h2 : keyMay false p = true := h1
    have h3 : keyOut false p = keyV false p := by rw [keyOut, if_pos h2]
    cases h4 : s.length == 64 with
    | false =>
      obtain ⟨n1, n2⟩ := no (by rw [hm, h1, h4]; rfl)
      rw [n1, n2]
      (repeat' (first | with_reducible refine sound_seq_k fun Kn hK => ?_ | with_reducible refine sound_region (by kernel_rfl) ?_ | with_reducible refine sound_drawn (by kernel_rfl) (by kernel_rfl) ?_ | with_reducible refine sound_block ?_ | with_reducible refine sound_if ?_ | with_reducible refine sound_ret ?_ | with_reducible refine sound_skip ?_ | with_reducible refine sound_exit ?_ | (with_reducible refine hK _ ?_; clear hK; clear Kn) | (clear hK; clear Kn; with_reducible refine hK _ ?_; clear hK; clear Kn) | (clear hK; clear Kn; clear hK; clear Kn; with_reducible refine hK _ ?_; clear hK; clear Kn) | (refine ⟨_, kput_m false p (by omega), ?_⟩) | with_reducible refine ex_bytes ?_ | with_reducible refine loopU_step ?_ | with_reducible refine retO_ret ?_ ?_ | with_reducible refine retO_normal ?_ ?_ | with_reducible refine And.intro (show logOk _ _ = true by kernel_rfl) ?_ | simp (maxSteps := 10000000) (implicitDefEqProofs := false) (disch := omega) only [wrap_id, wrap8, max_r, max_l, min_r, min_l] | (with_reducible refine br_intro (fun hb => ?_) (fun hb => ?_) <;> (try simp only [hb])) | (with_reducible refine And.intro (by first | omega | (simp; done) | (simp; omega)) ?_) | simp (maxSteps := 10000000) (implicitDefEqProofs := false) only [go_sem, Nat.reduceEqDiff, Nat.reduceBEq, ↓reduceIte, Nat.reduceAdd, Nat.reduceMul, Nat.reduceSub, Nat.reduceLeDiff, Nat.reduceLT, reduceCtorEq, Int.reduceLE, Int.reduceLT, Int.reduceToNat, Int.reduceBEq, hb, keyMay_err, h2, h4, int_beqL, List.length_map] | fail))
    | true =>
      cases hb' : (signedT b p s).may with
      | false =>
        obtain ⟨n1, n2⟩ := no (by rw [hm, h1, h4, hb']; rfl)
        rw [n1, n2]
        (repeat' (first | with_reducible refine sound_seq_k fun Kn hK => ?_ | with_reducible refine sound_region (by kernel_rfl) ?_ | with_reducible refine sound_drawn (by kernel_rfl) (by kernel_rfl) ?_ | with_reducible refine sound_block ?_ | with_reducible refine sound_if ?_ | with_reducible refine sound_ret ?_ | with_reducible refine sound_skip ?_ | with_reducible refine sound_exit ?_ | (with_reducible refine hK _ ?_; clear hK; clear Kn) | (clear hK; clear Kn; with_reducible refine hK _ ?_; clear hK; clear Kn) | (clear hK; clear Kn; clear hK; clear Kn; with_reducible refine hK _ ?_; clear hK; clear Kn) | (refine ⟨none, ?_⟩) | (refine ⟨_, kput_m false p (by omega), ?_⟩) | (refine ⟨_, atom_m tSigned (by decide), ?_⟩) | (refine ⟨_, clone_m b _ (by first | rfl | (rw [treeC_eq]; first | rfl | (simp only [go_sem, *]; done))) (by omega), ?_⟩) | (refine ⟨_, bclone_m s (by omega), ?_⟩) | (refine ⟨_, list_m' [atomT tSigned, b, keyV false p, atomT s] (by rfl) (by first | (simp only [hb, keyV, Bool.false_eq_true, ↓reduceIte, atomT, listT, List.flatMap_cons, List.flatMap_nil, treeC_mk, bytesD, List.cons_append, List.nil_append, List.length_cons, List.length_nil, List.map_nil, Nat.reduceAdd, List.append_nil]; done) | (simp only [hb, keyV, Bool.false_eq_true, ↓reduceIte, atomT, listT, List.flatMap_cons, List.flatMap_nil, treeC_mk, bytesD, List.cons_append, List.nil_append, List.length_cons, List.length_nil, List.map_nil, Nat.reduceAdd, List.append_nil]; rfl)) (by simp), ?_⟩) | (refine ⟨_, sxmay_m hG (signedT b p s) (by simp only [signedT, hb, keyV, Bool.false_eq_true, ↓reduceIte, listT, atomT, List.flatMap_cons, List.flatMap_nil, treeC_mk]; rfl) (by omega), ?_⟩) | with_reducible refine ex_bytes ?_ | with_reducible refine loopU_step ?_ | with_reducible refine retO_ret ?_ ?_ | with_reducible refine retO_normal ?_ ?_ | with_reducible refine And.intro (show logOk _ _ = true by kernel_rfl) ?_ | simp (maxSteps := 10000000) (implicitDefEqProofs := false) (disch := omega) only [wrap_id, wrap8, max_r, max_l, min_r, min_l] | (with_reducible refine br_intro (fun hb => ?_) (fun hb => ?_) <;> (try simp only [hb])) | (with_reducible refine And.intro (by first | omega | (simp; done) | (simp; omega)) ?_) | simp (maxSteps := 10000000) (implicitDefEqProofs := false) only [go_sem, Nat.reduceEqDiff, Nat.reduceBEq, ↓reduceIte, Nat.reduceAdd, Nat.reduceMul, Nat.reduceSub, Nat.reduceLeDiff, Nat.reduceLT, reduceCtorEq, Int.reduceLE, Int.reduceLT, Int.reduceToNat, Int.reduceBEq, hb, hb', keyMay_err, h2, h3, h4, keyV, listT, atomT, treeC_mk, List.flatMap_cons, List.flatMap_nil, List.length_map, int_beqL] | fail))
      | true =>
        have y1 : sMay b p s = true := by rw [hm, h1, h4, hb']; rfl
        have y2 : sOut b p s = signedT b p s := by rw [sOut, y1]; rfl
        have y3 : sErr b p s = 0 := by rw [sErr, y1]; rfl
        rw [y2, y3]
        (repeat' (first | with_reducible refine sound_seq_k fun Kn hK => ?_ | with_reducible refine sound_region (by kernel_rfl) ?_ | with_reducible refine sound_drawn (by kernel_rfl) (by kernel_rfl) ?_ | with_reducible refine sound_block ?_ | with_reducible refine sound_if ?_ | with_reducible refine sound_ret ?_ | with_reducible refine sound_skip ?_ | with_reducible refine sound_exit ?_ | (with_reducible refine hK _ ?_; clear hK; clear Kn) | (clear hK; clear Kn; with_reducible refine hK _ ?_; clear hK; clear Kn) | (clear hK; clear Kn; clear hK; clear Kn; with_reducible refine hK _ ?_; clear hK; clear Kn) | (refine ⟨none, ?_⟩) | (refine ⟨_, kput_m false p (by omega), ?_⟩) | (refine ⟨_, atom_m tSigned (by decide), ?_⟩) | (refine ⟨_, clone_m b _ (by first | rfl | (rw [treeC_eq]; first | rfl | (simp only [go_sem, *]; done))) (by omega), ?_⟩) | (refine ⟨_, bclone_m s (by omega), ?_⟩) | (refine ⟨_, list_m' [atomT tSigned, b, keyV false p, atomT s] (by rfl) (by first | (simp only [hb, keyV, Bool.false_eq_true, ↓reduceIte, atomT, listT, List.flatMap_cons, List.flatMap_nil, treeC_mk, bytesD, List.cons_append, List.nil_append, List.length_cons, List.length_nil, List.map_nil, Nat.reduceAdd, List.append_nil]; done) | (simp only [hb, keyV, Bool.false_eq_true, ↓reduceIte, atomT, listT, List.flatMap_cons, List.flatMap_nil, treeC_mk, bytesD, List.cons_append, List.nil_append, List.length_cons, List.length_nil, List.map_nil, Nat.reduceAdd, List.append_nil]; rfl)) (by simp), ?_⟩) | (refine ⟨_, sxmay_m hG (signedT b p s) (by simp only [signedT, hb, keyV, Bool.false_eq_true, ↓reduceIte, listT, atomT, List.flatMap_cons, List.flatMap_nil, treeC_mk]; rfl) (by omega), ?_⟩) | with_reducible refine ex_bytes ?_ | with_reducible refine loopU_step ?_ | with_reducible refine retO_ret ?_ ?_ | with_reducible refine retO_normal ?_ ?_ | with_reducible refine And.intro (show logOk _ _ = true by kernel_rfl) ?_ | simp (maxSteps := 10000000) (implicitDefEqProofs := false) (disch := omega) only [wrap_id, wrap8, max_r, max_l, min_r, min_l] | (with_reducible refine br_intro (fun hb => ?_) (fun hb => ?_) <;> (try simp only [hb])) | (with_reducible refine And.intro (by first | omega | (simp; done) | (simp; omega)) ?_) | simp (maxSteps := 10000000) (implicitDefEqProofs := false) only [go_sem, Nat.reduceEqDiff, Nat.reduceBEq, ↓reduceIte, Nat.reduceAdd, Nat.reduceMul, Nat.reduceSub, Nat.reduceLeDiff, Nat.reduceLT, reduceCtorEq, Int.reduceLE, Int.reduceLT, Int.reduceToNat, Int.reduceBEq, hb, hb', keyMay_err, h2, h3, h4, keyV, listT, atomT, treeC_mk, List.flatMap_cons, List.flatMap_nil, List.length_map, int_beqL] | fail))
        simp only [signedT, hb, keyV, Bool.false_eq_true, ↓reduceIte, listT, atomT, List.flatMap_cons, List.flatMap_nil, treeC_mk]
        rfl
end Go.Proofs.YtdakeodebgggfaaDoor

/- The sums' contracts, by data. -/
namespace Go.Proofs.YtdakeodebgggfaaDoor
open Go.RowKit
set_option linter.unusedVariables false
@[go_sem] def sumC (m : List UInt8) : List D := (shaL m).map bD
theorem rd_of_sl {w : World} {S : Nat → Prop} {A : Option Addr} {n c : Nat} {xs : List UInt8} (h : Rep.u8.sl w S A n c xs) : RD w S (bytesD xs) (.slice A n c) := by
  obtain ⟨rfl, hnc, hc, hh⟩ := h
  by_cases h0 : 0 < xs.length
  · obtain ⟨b, o, rfl, hb, hr⟩ := hh h0
    refine .sl _ c b o _ (fun i => ((bl xs)[i]?).getD undef) hnc hc hb (fun i x hx => ?_) fun i x hx => ?_
    all_goals
      rw [List.getElem?_map] at hx
      cases hl : xs[i]? with
      | none => rw [hl] at hx; cases hx
      | some y =>
        rw [hl] at hx
        have hx : some (bD y) = some x := hx
        injection hx with hx
        subst hx
        have e : (bl xs)[i]? = some (.int .u8 (y.toNat : Int)) := by simp [bl, hl]
        rw [e]
        first
          | exact .v _ rfl
          | (obtain ⟨es, he, hcc⟩ := hr i y hl
             have he : es = [.int .u8 (y.toNat : Int)] := he
             subst he
             have := hcc 0 _ rfl
             simpa [Rep.u8] using this)
  · have : xs = [] := List.eq_nil_of_length_eq_zero (by omega)
    subst this
    exact .nil A c hc
theorem of_m {G : Nat → Option (List D)} (b : List UInt8) (hb : b.length ≤ 1000000000) : Spec Tryd.prog G 49 [.c (.sl 1 [bytesD b])] (.one (.g (sumC b))) := by
  intro w S vs hS hT hA
  obtain ⟨hl, hc⟩ := hA
  match vs, hl with
  | [u], _ =>
    have hu : RD w S (.sl 1 [bytesD b]) u := hc 0 _ _ rfl rfl
    obtain ⟨A, c, rfl, hn, hcm, hh⟩ := rd_sl hu
    rcases hh with ⟨h0, _⟩ | ⟨bk, o, us, rfl, hb', h1, h2⟩
    · omega
    obtain ⟨B, k, hB, hs⟩ := bytes_sl (h2 0 _ rfl) rfl
    have hsl : Rep.u8.slice.sl w (fun b => b < w.heap.size) (some ⟨bk, o, none⟩) 1 c [b] := by
      refine ⟨rfl, hn, hcm, fun _ => ⟨bk, o, rfl, hS _ hb', fun i x hx => ?_⟩⟩
      cases i with
      | succ i => simp at hx
      | zero =>
        simp at hx
        subst hx
        refine ⟨[.slice B b.length k], ⟨B, _, k, rfl, Rep.sl_more hs hS⟩, fun j v hv => ?_⟩
        cases j with
        | succ j => simp at hv
        | zero =>
          simp at hv
          subst hv
          have := h1 0 _ rfl
          rw [hB] at this
          simpa [Rep.slice] using this
    refine Calls.mono (of_c [b] _ 1 c w hsl (by simpa using hb)) ?_
    rintro e w1 ⟨rfl, hB1⟩
    refine ⟨⟨hB1.os, hB1.tape, hB1.output, hB1.size, fun k hk _ => hB1.block k hk⟩, _, rfl, ⟨(shaL b).map fun x => Value.int .u8 (x.toNat : Int), by simp [bcells], by simp [sumC], fun i x v hx hv => ?_⟩⟩
    simp only [sumC, List.getElem?_map] at hx hv
    cases hq : (shaL b)[i]? with
    | none => rw [hq] at hx; cases hx
    | some y =>
      rw [hq] at hx hv
      simp at hx hv
      subst hx hv
      exact .v _ rfl
theorem refsum_m {G : Nat → Option (List D)} (b : List UInt8) (hb : b.length ≤ 1000000000) : Spec Tryd.prog G 50 [.c (bytesD b)] (.one (.c (bytesD (shaL b)))) := by
  intro w S vs hS hT hA
  obtain ⟨hl, hc⟩ := hA
  match vs, hl with
  | [u], _ =>
    obtain ⟨A, c, rfl, hs⟩ := bytes_sl (hc 0 _ _ rfl rfl) rfl
    have hr := refsum_c b A _ c S w hs hS hb
    rw [ref_sum] at hr
    generalize shaL b = m at hr ⊢
    refine Calls.mono hr ?_
    rintro e w1 ⟨v, rfl, ho, hB1⟩
    obtain ⟨B, k, rfl, hsl⟩ := Rep.own_sl ho
    refine ⟨⟨hB1.os, hB1.tape, hB1.output, hB1.size, fun k hk _ => hB1.block k hk⟩, _, rfl, rd_of_sl (Rep.sl_more hsl fun b hb => ?_)⟩
    rcases hb with hb | hb
    · exact hb.elim
    · exact .inr (Rep.own_lt ho _ hb)
theorem shaC_len (m : List UInt8) : (sumC m).length = 64 := rfl
end Go.Proofs.YtdakeodebgggfaaDoor

/- The sums of values: the program's and the reference's; the example; the law. -/
namespace Go.Proofs.YtdakeodebgggfaaDoor
open Go.RowKit
set_option linter.unusedVariables false
set_option linter.unusedSimpArgs false
set_option maxRecDepth 100000
set_option maxHeartbeats 2000000
def zeroL (n : Nat) : List UInt8 := List.replicate n 0
theorem zeroL_len (n : Nat) : (zeroL n).length = n := List.length_replicate
theorem zeros_C (n : Nat) : (List.replicate n [C.d (.v (.int .u8 0))]).flatten = ((zeroL n).map bD).map C.d := by
  induction n with
  | zero => rfl
  | succ n ih => rw [List.replicate_succ, List.flatten_cons, ih]; rfl
theorem zeros_take (n : Nat) : ((zeroL n).map bD).take n = (zeroL n).map bD := List.take_of_length_le (by rw [List.length_map, zeroL_len]; exact Nat.le_refl _)
theorem awake18_may : sMay (atomT [120]) (zeroL 32) (zeroL 64) = true := by
  have hm : (signedT (atomT [120]) (zeroL 32) (zeroL 64)).may = true := by
    simp only [Tree.may, signedT, keyV, Bool.false_eq_true, if_false, Tree.clean_eq, Tree.nodes_eq, Tree.deep_eq, Tree.form_eq, Tree.fair, Tree.atomF, listT, atomT, Tree.list, Tree.hinted, Tree.hint, Tree.data, Tree.kids, textB, zeroL, List.length_replicate]
    decide +kernel
  rw [sMay, hm, zeroL_len, zeroL_len]
  rfl
theorem head_signed (b : Tree) (p s : List UInt8) : headB (signedT b p s) tSigned = true := by
  simp [headB, signedT, listT, atomT, isB, Tree.list, Tree.kids, Tree.hinted, Tree.data]
theorem awake18_of {G : Nat → Option (List D)} (T : Tree) (h1 : Spec Tryd.prog G 34 [.g (sgnC (atomT [120]) (zeroL 32) (zeroL 64))] (.many [.g (treeC T), .c (.v (.int .i64 0))])) (hk : T.kids.length = 4) (hh : headB T tSigned = true) :
    Spec Tryd.prog G 10 [] (.one (.c (.v (.bool true)))) := by
  have h2 := headref_m (G := G) T rfl tSigned
  rw [hh] at h2
  rw [treeC_eq T, hk] at h1 h2
  rw [sgnC, atomT, treeC_mk] at h1
  refine spec_of Tryd.func10 rfl rfl rfl (by kernel_rfl) rfl fun K => ?_
  (repeat' (first | with_reducible refine sound_seq_k fun Kn hK => ?_ | with_reducible refine sound_region (by kernel_rfl) ?_ | with_reducible refine sound_drawn (by kernel_rfl) (by kernel_rfl) ?_ | with_reducible refine sound_block ?_ | with_reducible refine sound_if ?_ | with_reducible refine sound_ret ?_ | with_reducible refine sound_skip ?_ | with_reducible refine sound_exit ?_ | (with_reducible refine hK _ ?_; clear hK; clear Kn) | (clear hK; clear Kn; with_reducible refine hK _ ?_; clear hK; clear Kn) | (clear hK; clear Kn; clear hK; clear Kn; with_reducible refine hK _ ?_; clear hK; clear Kn) | (refine ⟨none, ?_⟩) | (refine ⟨_, atomref_m [120] (by decide), ?_⟩) | (refine ⟨_, h1, ?_⟩) | (refine ⟨_, h2, ?_⟩) | with_reducible refine ex_bytes ?_ | with_reducible refine loopU_step ?_ | with_reducible refine retO_ret ?_ ?_ | with_reducible refine retO_normal ?_ ?_ | with_reducible refine And.intro (show logOk _ _ = true by kernel_rfl) ?_ | simp (maxSteps := 10000000) (implicitDefEqProofs := false) (disch := omega) only [wrap_id, wrap8, max_r, max_l, min_r, min_l] | (with_reducible refine br_intro (fun hb => ?_) (fun hb => ?_) <;> (try simp only [hb])) | (with_reducible refine And.intro (by first | omega | (simp; done) | (simp; omega)) ?_) | simp (maxSteps := 10000000) (implicitDefEqProofs := false) only [go_sem, Nat.reduceEqDiff, Nat.reduceBEq, ↓reduceIte, Nat.reduceAdd, Nat.reduceMul, Nat.reduceSub, Nat.reduceLeDiff, Nat.reduceLT, reduceCtorEq, Int.reduceLE, Int.reduceLT, Int.reduceToNat, Int.reduceBEq, zeros_C, zeros_take, int_beqL, List.flatMap_nil, List.length_map, treeC_mk, atomT, zeroL_len] | fail))
theorem awake18_m {G : Nat → Option (List D)} (hG : G 0 = some powD) : Spec Tryd.prog G 10 [] (.one (.c (.v (.bool true)))) := by
  refine awake18_of (signedT (atomT [120]) (zeroL 32) (zeroL 64)) ?_ rfl (head_signed _ _ _)
  have h1 := sput18_m (G := G) hG (atomT [120]) (zeroL 32) (zeroL 64) (by simp [Tree.wt_eq, atomT, Tree.hint, Tree.data, Tree.kids]) (by simp [zeroL_len]) (by simp [zeroL_len])
  have ho : sOut (atomT [120]) (zeroL 32) (zeroL 64) = signedT (atomT [120]) (zeroL 32) (zeroL 64) := by rw [sOut, awake18_may]; rfl
  have he : sErr (atomT [120]) (zeroL 32) (zeroL 64) = 0 := by rw [sErr, awake18_may]; rfl
  rw [ho, he] at h1
  exact h1
theorem shaC_take (m : List UInt8) : (sumC m).take 64 = sumC m := List.take_of_length_le (by rw [shaC_len]; exact Nat.le_refl _)
theorem ssum_m {G : Nat → Option (List D)} (hG : G 0 = some powD) (v : Tree) {cs : List D} (hcs : treeC v = cs) (hw : v.wt ≤ 10000000) :
    Spec Tryd.prog G 24 [.g cs] (if v.may then .many [.c (bytesD (shaL v.form)), .c (.v (.int .i64 0))] else .many [.c (.sl 0 []), .c (.v (.int .i64 3))]) := by
  have hf := Tree.form_wt v hw
  have hp := sput_m (G := G) hG v rfl hw
  subst hcs
  have hx := shaC_take v.form
  have hl := shaC_len v.form
  have hE : bytesD (shaL v.form) = .sl 64 (sumC v.form) := by rw [bytesD, shaL_len]; rfl
  rw [hE]
  have ho := of_m (G := G) v.form (by omega)
  generalize sumC v.form = Z at *
  cases hm : v.may with
  | false =>
    rw [hm, if_neg (by simp)] at hp
    rw [if_neg (by simp)]
    refine spec_of Tryd.func24 rfl rfl rfl (by kernel_rfl) rfl fun K => ?_
    (repeat' (first | with_reducible refine sound_seq_k fun Kn hK => ?_ | with_reducible refine sound_region (by kernel_rfl) ?_ | with_reducible refine sound_drawn (by kernel_rfl) (by kernel_rfl) ?_ | with_reducible refine sound_block ?_ | with_reducible refine sound_if ?_ | with_reducible refine sound_ret ?_ | with_reducible refine sound_skip ?_ | with_reducible refine sound_exit ?_ | (with_reducible refine hK _ ?_; clear hK; clear Kn) | (clear hK; clear Kn; with_reducible refine hK _ ?_; clear hK; clear Kn) | (clear hK; clear Kn; clear hK; clear Kn; with_reducible refine hK _ ?_; clear hK; clear Kn) | (refine ⟨_, hp, ?_⟩) | with_reducible refine ex_bytes ?_ | with_reducible refine loopU_step ?_ | with_reducible refine retO_ret ?_ ?_ | with_reducible refine retO_normal ?_ ?_ | with_reducible refine And.intro (show logOk _ _ = true by kernel_rfl) ?_ | simp (maxSteps := 10000000) (implicitDefEqProofs := false) (disch := omega) only [wrap_id, wrap8, max_r, max_l, min_r, min_l] | (with_reducible refine br_intro (fun hb => ?_) (fun hb => ?_) <;> (try simp only [hb])) | (with_reducible refine And.intro (by first | omega | (simp; done) | (simp; omega)) ?_) | simp (maxSteps := 10000000) (implicitDefEqProofs := false) only [go_sem, Nat.reduceEqDiff, Nat.reduceBEq, ↓reduceIte, Nat.reduceAdd, Nat.reduceMul, Nat.reduceSub, Nat.reduceLeDiff, Nat.reduceLT, reduceCtorEq, Int.reduceLE, Int.reduceLT, Int.reduceToNat, Int.reduceBEq, List.length_map] | fail))
  | true =>
    rw [hm, if_pos rfl] at hp
    rw [if_pos rfl]
    refine spec_of Tryd.func24 rfl rfl rfl (by kernel_rfl) rfl fun K => ?_
    (repeat' (first | with_reducible refine sound_seq_k fun Kn hK => ?_ | with_reducible refine sound_region (by kernel_rfl) ?_ | with_reducible refine sound_drawn (by kernel_rfl) (by kernel_rfl) ?_ | with_reducible refine sound_block ?_ | with_reducible refine sound_if ?_ | with_reducible refine sound_ret ?_ | with_reducible refine sound_skip ?_ | with_reducible refine sound_exit ?_ | (with_reducible refine hK _ ?_; clear hK; clear Kn) | (clear hK; clear Kn; with_reducible refine hK _ ?_; clear hK; clear Kn) | (clear hK; clear Kn; clear hK; clear Kn; with_reducible refine hK _ ?_; clear hK; clear Kn) | (refine ⟨_, hp, ?_⟩) | (refine ⟨none, ?_⟩) | (refine ⟨_, ho, ?_⟩) | with_reducible refine ex_bytes ?_ | with_reducible refine loopU_step ?_ | with_reducible refine retO_ret ?_ ?_ | with_reducible refine retO_normal ?_ ?_ | with_reducible refine And.intro (show logOk _ _ = true by kernel_rfl) ?_ | simp (maxSteps := 10000000) (implicitDefEqProofs := false) (disch := omega) only [wrap_id, wrap8, max_r, max_l, min_r, min_l] | (with_reducible refine br_intro (fun hb => ?_) (fun hb => ?_) <;> (try simp only [hb])) | (with_reducible refine And.intro (by first | omega | (simp; done) | (simp; omega)) ?_) | simp (maxSteps := 10000000) (implicitDefEqProofs := false) only [go_sem, Nat.reduceEqDiff, Nat.reduceBEq, ↓reduceIte, Nat.reduceAdd, Nat.reduceMul, Nat.reduceSub, Nat.reduceLeDiff, Nat.reduceLT, reduceCtorEq, Int.reduceLE, Int.reduceLT, Int.reduceToNat, Int.reduceBEq, List.length_map, rep_1, hl, hx, List.drop_replicate, List.append_nil] | fail))
theorem refsum18_m {G : Nat → Option (List D)} (v : Tree) {cs : List D} (hcs : treeC v = cs) (hw : v.wt ≤ 10000000) : Spec Tryd.prog G 25 [.g cs] (.one (.c (bytesD (shaL v.form)))) := by
  have hf := Tree.form_wt v hw
  have hr := refsum_m (G := G) v.form (by omega)
  subst hcs
  generalize shaL v.form = Z at *
  refine spec_of Tryd.func25 rfl rfl rfl (by kernel_rfl) rfl fun K => ?_
  (repeat' (first | with_reducible refine sound_seq_k fun Kn hK => ?_ | with_reducible refine sound_region (by kernel_rfl) ?_ | with_reducible refine sound_drawn (by kernel_rfl) (by kernel_rfl) ?_ | with_reducible refine sound_block ?_ | with_reducible refine sound_if ?_ | with_reducible refine sound_ret ?_ | with_reducible refine sound_skip ?_ | with_reducible refine sound_exit ?_ | (with_reducible refine hK _ ?_; clear hK; clear Kn) | (clear hK; clear Kn; with_reducible refine hK _ ?_; clear hK; clear Kn) | (clear hK; clear Kn; clear hK; clear Kn; with_reducible refine hK _ ?_; clear hK; clear Kn) | (refine ⟨_, form_m v _ rfl hw, ?_⟩) | (refine ⟨_, hr, ?_⟩) | with_reducible refine ex_bytes ?_ | with_reducible refine loopU_step ?_ | with_reducible refine retO_ret ?_ ?_ | with_reducible refine retO_normal ?_ ?_ | with_reducible refine And.intro (show logOk _ _ = true by kernel_rfl) ?_ | simp (maxSteps := 10000000) (implicitDefEqProofs := false) (disch := omega) only [wrap_id, wrap8, max_r, max_l, min_r, min_l] | (with_reducible refine br_intro (fun hb => ?_) (fun hb => ?_) <;> (try simp only [hb])) | (with_reducible refine And.intro (by first | omega | (simp; done) | (simp; omega)) ?_) | simp (maxSteps := 10000000) (implicitDefEqProofs := false) only [go_sem, Nat.reduceEqDiff, Nat.reduceBEq, ↓reduceIte, Nat.reduceAdd, Nat.reduceMul, Nat.reduceSub, Nat.reduceLeDiff, Nat.reduceLT, reduceCtorEq, Int.reduceLE, Int.reduceLT, Int.reduceToNat, Int.reduceBEq, List.length_map] | fail))
theorem signedsums_m {G : Nat → Option (List D)} (hG : G 0 = some powD) (v : Tree) (hw : v.wt ≤ 2000000) : Spec Tryd.prog G 6 [.g (treeC v)] (.one (.c (.v (.bool true)))) := by
  have h1 := great_m (G := G) v _ 0 rfl (by omega) (by omega)
  have h2 := awake18_m (G := G) hG
  have h3 := ssum_m (G := G) hG v rfl (by omega)
  have h4 := may_m (G := G) v rfl (by omega)
  have h5 := refsum18_m (G := G) v rfl (by omega)
  generalize shaL v.form = Z at *
  refine spec_of Tryd.func6 rfl rfl rfl (by kernel_rfl) rfl fun K => ?_
  cases hg : v.great 0 with
  | true =>
    rw [hg] at h1
    (repeat' (first | with_reducible refine sound_seq_k fun Kn hK => ?_ | with_reducible refine sound_region (by kernel_rfl) ?_ | with_reducible refine sound_drawn (by kernel_rfl) (by kernel_rfl) ?_ | with_reducible refine sound_block ?_ | with_reducible refine sound_if ?_ | with_reducible refine sound_ret ?_ | with_reducible refine sound_skip ?_ | with_reducible refine sound_exit ?_ | (with_reducible refine hK _ ?_; clear hK; clear Kn) | (clear hK; clear Kn; with_reducible refine hK _ ?_; clear hK; clear Kn) | (clear hK; clear Kn; clear hK; clear Kn; with_reducible refine hK _ ?_; clear hK; clear Kn) | (refine ⟨_, h1, ?_⟩) | (refine ⟨_, h2, ?_⟩) | with_reducible refine ex_bytes ?_ | with_reducible refine loopU_step ?_ | with_reducible refine retO_ret ?_ ?_ | with_reducible refine retO_normal ?_ ?_ | with_reducible refine And.intro (show logOk _ _ = true by kernel_rfl) ?_ | simp (maxSteps := 10000000) (implicitDefEqProofs := false) (disch := omega) only [wrap_id, wrap8, max_r, max_l, min_r, min_l] | (with_reducible refine br_intro (fun hb => ?_) (fun hb => ?_) <;> (try simp only [hb])) | (with_reducible refine And.intro (by first | omega | (simp; done) | (simp; omega)) ?_) | simp (maxSteps := 10000000) (implicitDefEqProofs := false) only [go_sem, Nat.reduceEqDiff, Nat.reduceBEq, ↓reduceIte, Nat.reduceAdd, Nat.reduceMul, Nat.reduceSub, Nat.reduceLeDiff, Nat.reduceLT, reduceCtorEq, Int.reduceLE, Int.reduceLT, Int.reduceToNat, Int.reduceBEq, List.length_map] | fail))
  | false =>
    rw [hg] at h1
    cases hm : v.may with
    | false =>
      rw [hm] at h4
      rw [hm, if_neg (by simp)] at h3
      (repeat' (first | with_reducible refine sound_seq_k fun Kn hK => ?_ | with_reducible refine sound_region (by kernel_rfl) ?_ | with_reducible refine sound_drawn (by kernel_rfl) (by kernel_rfl) ?_ | with_reducible refine sound_block ?_ | with_reducible refine sound_if ?_ | with_reducible refine sound_ret ?_ | with_reducible refine sound_skip ?_ | with_reducible refine sound_exit ?_ | (with_reducible refine hK _ ?_; clear hK; clear Kn) | (clear hK; clear Kn; with_reducible refine hK _ ?_; clear hK; clear Kn) | (clear hK; clear Kn; clear hK; clear Kn; with_reducible refine hK _ ?_; clear hK; clear Kn) | (refine ⟨_, h1, ?_⟩) | (refine ⟨_, h2, ?_⟩) | (refine ⟨_, h3, ?_⟩) | (refine ⟨_, h4, ?_⟩) | with_reducible refine ex_bytes ?_ | with_reducible refine loopU_step ?_ | with_reducible refine retO_ret ?_ ?_ | with_reducible refine retO_normal ?_ ?_ | with_reducible refine And.intro (show logOk _ _ = true by kernel_rfl) ?_ | simp (maxSteps := 10000000) (implicitDefEqProofs := false) (disch := omega) only [wrap_id, wrap8, max_r, max_l, min_r, min_l] | (with_reducible refine br_intro (fun hb => ?_) (fun hb => ?_) <;> (try simp only [hb])) | (with_reducible refine And.intro (by first | omega | (simp; done) | (simp; omega)) ?_) | simp (maxSteps := 10000000) (implicitDefEqProofs := false) only [go_sem, Nat.reduceEqDiff, Nat.reduceBEq, ↓reduceIte, Nat.reduceAdd, Nat.reduceMul, Nat.reduceSub, Nat.reduceLeDiff, Nat.reduceLT, reduceCtorEq, Int.reduceLE, Int.reduceLT, Int.reduceToNat, Int.reduceBEq, List.length_map, int_beqL] | fail))
    | true =>
      rw [hm] at h4
      rw [hm, if_pos rfl] at h3
      (repeat' (first | with_reducible refine sound_seq_k fun Kn hK => ?_ | with_reducible refine sound_region (by kernel_rfl) ?_ | with_reducible refine sound_drawn (by kernel_rfl) (by kernel_rfl) ?_ | with_reducible refine sound_block ?_ | with_reducible refine sound_if ?_ | with_reducible refine sound_ret ?_ | with_reducible refine sound_skip ?_ | with_reducible refine sound_exit ?_ | (with_reducible refine hK _ ?_; clear hK; clear Kn) | (clear hK; clear Kn; with_reducible refine hK _ ?_; clear hK; clear Kn) | (clear hK; clear Kn; clear hK; clear Kn; with_reducible refine hK _ ?_; clear hK; clear Kn) | (refine ⟨_, h1, ?_⟩) | (refine ⟨_, h2, ?_⟩) | (refine ⟨_, h3, ?_⟩) | (refine ⟨_, h4, ?_⟩) | (refine ⟨_, h5, ?_⟩) | with_reducible refine ex_bytes ?_ | with_reducible refine loopU_step ?_ | with_reducible refine retO_ret ?_ ?_ | with_reducible refine retO_normal ?_ ?_ | with_reducible refine And.intro (show logOk _ _ = true by kernel_rfl) ?_ | simp (maxSteps := 10000000) (implicitDefEqProofs := false) (disch := omega) only [wrap_id, wrap8, max_r, max_l, min_r, min_l] | (with_reducible refine br_intro (fun hb => ?_) (fun hb => ?_) <;> (try simp only [hb])) | (with_reducible refine And.intro (by first | omega | (simp; done) | (simp; omega)) ?_) | simp (maxSteps := 10000000) (implicitDefEqProofs := false) only [go_sem, Nat.reduceEqDiff, Nat.reduceBEq, ↓reduceIte, Nat.reduceAdd, Nat.reduceMul, Nat.reduceSub, Nat.reduceLeDiff, Nat.reduceLT, reduceCtorEq, Int.reduceLE, Int.reduceLT, Int.reduceToNat, Int.reduceBEq, List.length_map] | fail))
      all_goals (simp at hb)
end Go.Proofs.YtdakeodebgggfaaDoor

/- Principals and bytes, opened as a row's arguments. -/
namespace Go.Proofs.YtdakeodebgggfaaDoor
open Go.ChangeShapes Go.WideShapes Go.ChangeAt Go.RowKit
set_option linter.unusedSimpArgs false
set_option maxRecDepth 100000
/-- A principal in two cells. -/
def Rep.key : Rep (Bool × List UInt8) where
  size := 2
  pos := by omega
  rd := fun w S cs k => ∃ A n c, cs = [.bool k.1, .slice A n c] ∧ Rep.u8.sl w S A n c k.2
  len := fun h => by obtain ⟨_, _, _, rfl, _⟩ := h; rfl
  keep := fun h hk => by
    obtain ⟨A, n, c, rfl, h⟩ := h
    exact ⟨A, n, c, rfl, Rep.sl_keep h hk⟩
  more := fun h hS => by
    obtain ⟨A, n, c, rfl, h⟩ := h
    exact ⟨A, n, c, rfl, Rep.sl_more h hS⟩
  one := fun h u hu => by
    obtain ⟨A, n, c, rfl, h⟩ := h
    simp at hu
    rcases hu with rfl | rfl <;> rfl
/-- A principal is a bool and bytes. -/
theorem opensN_key {P : Program} {t tb tB ty : TypeId} {fs : Array Field} (ht : P.underlying t = some (.struct fs)) (hf : fs.toList.map (fun f => (f.type, f.offset)) = [(tb, 0), (tB, 1)]) (hc : P.cellsOf t = 2)
    (hb : P.underlying tb = some .bool) (hB : P.underlying tB = some (.slice ty)) (hy : P.underlying ty = some (.int .u8)) (cb : P.cellsOf tb = 1) (cB : P.cellsOf tB = 1) (cy : P.cellsOf ty = 1) (fuel : Nat) :
    OpensN P fuel t Rep.key (fun k => k.2.length) := by
  intro H enc w sp held cs x h
  obtain ⟨xs, n, rfl, rfl, hcl, hlx, hg⟩ := DataW.trod_struct ht h
  have hfl : fs.size = 2 := by
    have := congrArg List.length hf
    simpa using this
  have hfi : ∀ (i : Nat) (p : Nat × Nat), [(tb, 0), (tB, 1)][i]? = some p → ∃ f : Field, fs[i]? = some f ∧ f.type = p.1 ∧ f.offset = p.2 := by
    intro i p hp
    rw [← hf, List.getElem?_map, Option.map_eq_some_iff] at hp
    obtain ⟨f, h1, rfl⟩ := hp
    exact ⟨f, by simpa using h1, rfl, rfl⟩
  have hx5 : xs.length = 2 := by omega
  have hc5 : cs.length = 2 := by omega
  match xs, hx5, cs, hc5 with
  | [x0, x1], _, [c0, c1], _ =>
    obtain ⟨f0, g0, t0, o0⟩ := hfi 0 _ rfl
    obtain ⟨f1, g1, t1, o1⟩ := hfi 1 _ rfl
    have e0 := hg 0 f0 g0
    have e1 := hg 1 f1 g1
    rw [t0, o0, cb] at e0
    rw [t1, o1, cB] at e1
    obtain ⟨b0, q0, r0⟩ := DataW.trod_bool hb e0
    have oB : ∀ n, OpensN P n tB Rep.u8.slice (fun xs => (xs.map fun _ => 1).sum + 1) := fun n => opensN_slice n hB cy fun m _ => opensN_u8 m hy cy
    obtain ⟨y1, ⟨A1, n1, k1, q1, s1⟩, w1⟩ := oB _ _ _ _ _ _ _ _ e1
    simp only [List.drop_zero, List.drop_succ_cons, List.take_succ_cons, List.take_zero, List.cons.injEq, and_true] at q0 q1
    subst q0 q1
    refine ⟨(b0, y1), ⟨A1, n1, k1, rfl, s1⟩, ?_⟩
    simp only [sum_ones] at w1
    simp only [Rows.uptoBulk, Rows.uptoBulkAll]
    simp only [List.map_cons, List.map_nil, Rows.uptoBulkAll]
    omega
theorem opens_key (fuel : Nat) : OpensN Tryd.prog fuel 38 Rep.key (fun k => k.2.length) :=
  opensN_key Tryd.underlying38 (by kernel_rfl) (by kernel_rfl) Tryd.underlying4 Tryd.underlying22 Tryd.underlying5 (by kernel_rfl) (by kernel_rfl) (by kernel_rfl) fuel
theorem cellsOf_key : CellsOf Rep.key (fun k => [.v (.bool k.1), bytesD k.2]) := by
  rintro w S cs y ⟨A, n, c, rfl, hs⟩
  exact cellsR_cons (.v _ rfl) (cellsR_cons (rd_bytes hs) cellsR_nil)
theorem opens_bytes (fuel : Nat) : OpensN Tryd.prog fuel 22 Rep.u8.slice (fun xs => xs.length + 1) := by
  have h := opensN_slice (P := Tryd.prog) fuel Tryd.underlying22 (by kernel_rfl) fun m _ => opensN_u8 m Tryd.underlying5 (by kernel_rfl)
  simpa only [sum_ones] using h
end Go.Proofs.YtdakeodebgggfaaDoor

/- Principals' sums. -/
namespace Go.Proofs.YtdakeodebgggfaaDoor
open Go.RowKit
set_option linter.unusedVariables false
set_option linter.unusedSimpArgs false
set_option maxRecDepth 100000
set_option maxHeartbeats 2000000
def keySum (p : List UInt8) : List UInt8 := shaL (keyV false p).form
theorem keySum_len (p : List UInt8) : (keySum p).length = 64 := shaL_len _
theorem dec32 : dec 32 = [51, 50] := by decide +kernel
theorem keyV_may {p : List UInt8} (h : p.length = 32) : (keyV false p).may = true := by
  have ht : (textB p).length = 35 := by simp [textB, h, dec32]
  have h1 : (textB tPub).length = 13 := by decide +kernel
  have h2 : (textB tEd).length = 9 := by decide +kernel
  have hf : (keyV false p).form.length = 61 := by
    simp only [keyV, Bool.false_eq_true, ↓reduceIte, listT, atomT, Tree.form_eq, Tree.list, Tree.kids, Tree.atomF, Tree.hinted, Tree.hint, Tree.data, List.map_cons, List.map_nil, List.flatten_cons, List.flatten_nil, List.length_append, List.length_cons, List.length_nil, ht, h1, h2]
  have hc : (keyV false p).clean = true := by
    simp [keyV, listT, atomT, Tree.clean_eq, Tree.fair, Tree.list, Tree.kids, Tree.hinted, Tree.hint, Tree.data]
  have hn : (keyV false p).nodes = 5 := by
    simp [keyV, listT, atomT, Tree.nodes_eq, Tree.kids]
  have hd : (keyV false p).deep = 2 := by
    simp [keyV, listT, atomT, Tree.deep_eq, Tree.list, Tree.kids, most]
  rw [Tree.may, hc, hn, hd, hf]
  rfl
theorem keyV_wt {s : Bool} {d : List UInt8} : (keyV s d).wt ≤ 200 + d.length := by
  cases s <;> simp [keyV, Tree.wt_eq, listT, atomT, Tree.hint, Tree.data, Tree.kids, tHash, tSha, tPub, tEd] <;> omega
theorem ksum_m {G : Nat → Option (List D)} (hG : G 0 = some powD) (p : List UInt8) (hp : p.length ≤ 1000000) :
    Spec Tryd.prog G 27 [.c (bytesD p)] (.many [.g (if p.length == 32 then keyC true (keySum p) else keyC false []), .c (.v (.int .i64 (if p.length == 32 then 0 else 7)))]) := by
  have hm : keyMay false p = (p.length == 32) := rfl
  cases h1 : p.length == 32 with
  | false =>
    rw [h1] at hm
    refine spec_of Tryd.func27 rfl rfl rfl (by kernel_rfl) rfl fun K => ?_
    (repeat' (first | with_reducible refine sound_seq_k fun Kn hK => ?_ | with_reducible refine sound_region (by kernel_rfl) ?_ | with_reducible refine sound_drawn (by kernel_rfl) (by kernel_rfl) ?_ | with_reducible refine sound_block ?_ | with_reducible refine sound_if ?_ | with_reducible refine sound_ret ?_ | with_reducible refine sound_skip ?_ | with_reducible refine sound_exit ?_ | (with_reducible refine hK _ ?_; clear hK; clear Kn) | (clear hK; clear Kn; with_reducible refine hK _ ?_; clear hK; clear Kn) | (clear hK; clear Kn; clear hK; clear Kn; with_reducible refine hK _ ?_; clear hK; clear Kn) | (refine ⟨_, kput_m false p (by omega), ?_⟩) | with_reducible refine ex_bytes ?_ | with_reducible refine loopU_step ?_ | with_reducible refine retO_ret ?_ ?_ | with_reducible refine retO_normal ?_ ?_ | with_reducible refine And.intro (show logOk _ _ = true by kernel_rfl) ?_ | simp (maxSteps := 10000000) (implicitDefEqProofs := false) (disch := omega) only [wrap_id, wrap8, max_r, max_l, min_r, min_l] | (with_reducible refine br_intro (fun hb => ?_) (fun hb => ?_) <;> (try simp only [hb])) | (with_reducible refine And.intro (by first | omega | (simp; done) | (simp; omega)) ?_) | simp (maxSteps := 10000000) (implicitDefEqProofs := false) only [go_sem, Nat.reduceEqDiff, Nat.reduceBEq, ↓reduceIte, Nat.reduceAdd, Nat.reduceMul, Nat.reduceSub, Nat.reduceLeDiff, Nat.reduceLT, reduceCtorEq, Int.reduceLE, Int.reduceLT, Int.reduceToNat, Int.reduceBEq, hm, keyMay_err, List.length_map] | fail))
    all_goals (rw [keyErr, hm]; rfl)
  | true =>
    rw [h1] at hm
    have hput := sput_m (G := G) hG (keyV false p) rfl (by have := keyV_wt (s := false) (d := p); omega)
    rw [keyV_may (by simpa using h1), if_pos rfl] at hput
    have hko : keyOut false p = keyV false p := by rw [keyOut, hm]; rfl
    have hfl : (keyV false p).form.length ≤ 1000000000 := by have := Tree.form_wt (keyV false p) (by have := keyV_wt (s := false) (d := p); omega); have := keyV_wt (s := false) (d := p); omega
    have ho := of_m (G := G) (keyV false p).form hfl
    have hE : bytesD (keySum p) = .sl 64 (sumC (keyV false p).form) := by rw [bytesD, keySum_len]; rfl
    have hl := shaC_len (keyV false p).form
    have hx := shaC_take (keyV false p).form
    rw [keyC, hE]
    generalize sumC (keyV false p).form = Z at *
    refine spec_of Tryd.func27 rfl rfl rfl (by kernel_rfl) rfl fun K => ?_
    (repeat' (first | with_reducible refine sound_seq_k fun Kn hK => ?_ | with_reducible refine sound_region (by kernel_rfl) ?_ | with_reducible refine sound_drawn (by kernel_rfl) (by kernel_rfl) ?_ | with_reducible refine sound_block ?_ | with_reducible refine sound_if ?_ | with_reducible refine sound_ret ?_ | with_reducible refine sound_skip ?_ | with_reducible refine sound_exit ?_ | (with_reducible refine hK _ ?_; clear hK; clear Kn) | (clear hK; clear Kn; with_reducible refine hK _ ?_; clear hK; clear Kn) | (clear hK; clear Kn; clear hK; clear Kn; with_reducible refine hK _ ?_; clear hK; clear Kn) | (refine ⟨_, kput_m false p (by omega), ?_⟩) | (refine ⟨_, hput, ?_⟩) | (refine ⟨none, ?_⟩) | (refine ⟨_, ho, ?_⟩) | with_reducible refine ex_bytes ?_ | with_reducible refine loopU_step ?_ | with_reducible refine retO_ret ?_ ?_ | with_reducible refine retO_normal ?_ ?_ | with_reducible refine And.intro (show logOk _ _ = true by kernel_rfl) ?_ | simp (maxSteps := 10000000) (implicitDefEqProofs := false) (disch := omega) only [wrap_id, wrap8, max_r, max_l, min_r, min_l] | (with_reducible refine br_intro (fun hb => ?_) (fun hb => ?_) <;> (try simp only [hb])) | (with_reducible refine And.intro (by first | omega | (simp; done) | (simp; omega)) ?_) | simp (maxSteps := 10000000) (implicitDefEqProofs := false) only [go_sem, Nat.reduceEqDiff, Nat.reduceBEq, ↓reduceIte, Nat.reduceAdd, Nat.reduceMul, Nat.reduceSub, Nat.reduceLeDiff, Nat.reduceLT, reduceCtorEq, Int.reduceLE, Int.reduceLT, Int.reduceToNat, Int.reduceBEq, hm, hko, hl, hx, rep_1, List.drop_replicate, List.append_nil, keyMay_err, List.length_map] | fail))
theorem rksum_m {G : Nat → Option (List D)} (p : List UInt8) (hp : p.length ≤ 1000000) : Spec Tryd.prog G 32 [.c (bytesD p)] (.one (.g (keyC true (keySum p)))) := by
  have hw : (keyV false p).wt ≤ 10000000 := by have := keyV_wt (s := false) (d := p); omega
  have hfl : (keyV false p).form.length ≤ 1000000000 := by have := Tree.form_wt (keyV false p) hw; omega
  have hr := refsum_m (G := G) (keyV false p).form hfl
  have hE : shaL (keyV false p).form = keySum p := rfl
  rw [hE] at hr
  generalize keySum p = Z at *
  refine spec_of Tryd.func32 rfl rfl rfl (by kernel_rfl) rfl fun K => ?_
  (repeat' (first | with_reducible refine sound_seq_k fun Kn hK => ?_ | with_reducible refine sound_region (by kernel_rfl) ?_ | with_reducible refine sound_drawn (by kernel_rfl) (by kernel_rfl) ?_ | with_reducible refine sound_block ?_ | with_reducible refine sound_if ?_ | with_reducible refine sound_ret ?_ | with_reducible refine sound_skip ?_ | with_reducible refine sound_exit ?_ | (with_reducible refine hK _ ?_; clear hK; clear Kn) | (clear hK; clear Kn; with_reducible refine hK _ ?_; clear hK; clear Kn) | (clear hK; clear Kn; clear hK; clear Kn; with_reducible refine hK _ ?_; clear hK; clear Kn) | (refine ⟨_, value_m false p (by omega), ?_⟩) | (refine ⟨_, form_m (keyV false p) _ rfl hw, ?_⟩) | (refine ⟨_, hr, ?_⟩) | with_reducible refine ex_bytes ?_ | with_reducible refine loopU_step ?_ | with_reducible refine retO_ret ?_ ?_ | with_reducible refine retO_normal ?_ ?_ | with_reducible refine And.intro (show logOk _ _ = true by kernel_rfl) ?_ | simp (maxSteps := 10000000) (implicitDefEqProofs := false) (disch := omega) only [wrap_id, wrap8, max_r, max_l, min_r, min_l] | (with_reducible refine br_intro (fun hb => ?_) (fun hb => ?_) <;> (try simp only [hb])) | (with_reducible refine And.intro (by first | omega | (simp; done) | (simp; omega)) ?_) | simp (maxSteps := 10000000) (implicitDefEqProofs := false) only [go_sem, Nat.reduceEqDiff, Nat.reduceBEq, ↓reduceIte, Nat.reduceAdd, Nat.reduceMul, Nat.reduceSub, Nat.reduceLeDiff, Nat.reduceLT, reduceCtorEq, Int.reduceLE, Int.reduceLT, Int.reduceToNat, Int.reduceBEq, List.length_map] | fail))
def idL (s : Bool) (d : List UInt8) : List UInt8 := if keyMay s d then (if s then d else keySum d) else zeroL 64
theorem idL_len (s : Bool) (d : List UInt8) : (idL s d).length = 64 := by
  unfold idL
  split
  · rename_i h
    cases s with
    | true => simpa [keyMay] using h
    | false => exact keySum_len d
  · exact zeroL_len 64
theorem zeros_R (n : Nat) : List.replicate n (C.d (.v (.int .u8 0))) = ((zeroL n).map bD).map C.d := by simp [zeroL, bD]
theorem kid14_m {G : Nat → Option (List D)} (hG : G 0 = some powD) (s : Bool) (d : List UInt8) (hd : d.length ≤ 1000000) :
    Spec Tryd.prog G 26 [.g (keyC s d)] (.many [.g ((idL s d).map bD), .c (.v (.int .i64 (keyErr s d)))]) := by
  have hz := idL_len s d
  have hI : idL s d = if keyMay s d then (if s then d else keySum d) else zeroL 64 := rfl
  have ht : ∀ l : List UInt8, l.length = 64 → ((l.map bD).take 64 = l.map bD ∧ ((l.map bD).map C.d).take 64 = (l.map bD).map C.d) := fun l h => ⟨List.take_of_length_le (by rw [List.length_map, h]; exact Nat.le_refl _), List.take_of_length_le (by rw [List.length_map, List.length_map, h]; exact Nat.le_refl _)⟩
  have hdz : (((zeroL 64).map bD).map C.d).drop 64 = [] := by simp [zeroL]
  cases hm : keyMay s d with
  | false =>
    rw [hm] at hI
    have he : keyErr s d = 7 := by rw [keyErr, hm]; rfl
    rw [hI, he]
    refine spec_of Tryd.func26 rfl rfl rfl (by kernel_rfl) rfl fun K => ?_
    (repeat' (first | with_reducible refine sound_seq_k fun Kn hK => ?_ | with_reducible refine sound_region (by kernel_rfl) ?_ | with_reducible refine sound_drawn (by kernel_rfl) (by kernel_rfl) ?_ | with_reducible refine sound_block ?_ | with_reducible refine sound_if ?_ | with_reducible refine sound_ret ?_ | with_reducible refine sound_skip ?_ | with_reducible refine sound_exit ?_ | (with_reducible refine hK _ ?_; clear hK; clear Kn) | (clear hK; clear Kn; with_reducible refine hK _ ?_; clear hK; clear Kn) | (clear hK; clear Kn; clear hK; clear Kn; with_reducible refine hK _ ?_; clear hK; clear Kn) | (refine ⟨_, kmay_m s d, ?_⟩) | with_reducible refine ex_bytes ?_ | with_reducible refine loopU_step ?_ | with_reducible refine retO_ret ?_ ?_ | with_reducible refine retO_normal ?_ ?_ | with_reducible refine And.intro (show logOk _ _ = true by kernel_rfl) ?_ | simp (maxSteps := 10000000) (implicitDefEqProofs := false) (disch := omega) only [wrap_id, wrap8, max_r, max_l, min_r, min_l] | (with_reducible refine br_intro (fun hb => ?_) (fun hb => ?_) <;> (try simp only [hb])) | (with_reducible refine And.intro (by first | omega | (simp; done) | (simp; omega)) ?_) | simp (maxSteps := 10000000) (implicitDefEqProofs := false) only [go_sem, Nat.reduceEqDiff, Nat.reduceBEq, ↓reduceIte, Nat.reduceAdd, Nat.reduceMul, Nat.reduceSub, Nat.reduceLeDiff, Nat.reduceLT, reduceCtorEq, Int.reduceLE, Int.reduceLT, Int.reduceToNat, Int.reduceBEq, hm, zeros_R, zeroL_len, List.length_map, (ht _ (zeroL_len 64)).1, (ht _ (zeroL_len 64)).2, hdz, List.append_nil] | fail))
    all_goals skip
  | true =>
    rw [hm] at hI
    have he : keyErr s d = 0 := by rw [keyErr, hm]; rfl
    cases s with
    | true =>
      have hl : d.length = 64 := by simpa [keyMay] using hm
      have hk := kmay_m (G := G) true d
      rw [keyC, bytesD, hl, hm] at hk
      rw [hI, he]
      refine spec_of Tryd.func26 rfl rfl rfl (by kernel_rfl) rfl fun K => ?_
      (repeat' (first | with_reducible refine sound_seq_k fun Kn hK => ?_ | with_reducible refine sound_region (by kernel_rfl) ?_ | with_reducible refine sound_drawn (by kernel_rfl) (by kernel_rfl) ?_ | with_reducible refine sound_block ?_ | with_reducible refine sound_if ?_ | with_reducible refine sound_ret ?_ | with_reducible refine sound_skip ?_ | with_reducible refine sound_exit ?_ | (with_reducible refine hK _ ?_; clear hK; clear Kn) | (clear hK; clear Kn; with_reducible refine hK _ ?_; clear hK; clear Kn) | (clear hK; clear Kn; clear hK; clear Kn; with_reducible refine hK _ ?_; clear hK; clear Kn) | (refine ⟨_, hk, ?_⟩) | with_reducible refine ex_bytes ?_ | with_reducible refine loopU_step ?_ | with_reducible refine retO_ret ?_ ?_ | with_reducible refine retO_normal ?_ ?_ | with_reducible refine And.intro (show logOk _ _ = true by kernel_rfl) ?_ | simp (maxSteps := 10000000) (implicitDefEqProofs := false) (disch := omega) only [wrap_id, wrap8, max_r, max_l, min_r, min_l] | (with_reducible refine br_intro (fun hb => ?_) (fun hb => ?_) <;> (try simp only [hb])) | (with_reducible refine And.intro (by first | omega | (simp; done) | (simp; omega)) ?_) | simp (maxSteps := 10000000) (implicitDefEqProofs := false) only [go_sem, Nat.reduceEqDiff, Nat.reduceBEq, ↓reduceIte, Nat.reduceAdd, Nat.reduceMul, Nat.reduceSub, Nat.reduceLeDiff, Nat.reduceLT, reduceCtorEq, Int.reduceLE, Int.reduceLT, Int.reduceToNat, Int.reduceBEq, hm, zeros_R, zeroL_len, hl, (ht _ hl).1, (ht _ hl).2, hdz, List.append_nil, List.length_map] | fail))
      all_goals skip
    | false =>
      have hl : d.length = 32 := by simpa [keyMay] using hm
      have hs := ksum_m (G := G) hG d hd
      have hb : (d.length == 32) = true := by simpa using hl
      have hkl := keySum_len d
      rw [hb, if_pos rfl, if_pos rfl] at hs
      rw [hI, he]
      refine spec_of Tryd.func26 rfl rfl rfl (by kernel_rfl) rfl fun K => ?_
      (repeat' (first | with_reducible refine sound_seq_k fun Kn hK => ?_ | with_reducible refine sound_region (by kernel_rfl) ?_ | with_reducible refine sound_drawn (by kernel_rfl) (by kernel_rfl) ?_ | with_reducible refine sound_block ?_ | with_reducible refine sound_if ?_ | with_reducible refine sound_ret ?_ | with_reducible refine sound_skip ?_ | with_reducible refine sound_exit ?_ | (with_reducible refine hK _ ?_; clear hK; clear Kn) | (clear hK; clear Kn; with_reducible refine hK _ ?_; clear hK; clear Kn) | (clear hK; clear Kn; clear hK; clear Kn; with_reducible refine hK _ ?_; clear hK; clear Kn) | (refine ⟨_, kmay_m false d, ?_⟩) | (refine ⟨_, hs, ?_⟩) | with_reducible refine ex_bytes ?_ | with_reducible refine loopU_step ?_ | with_reducible refine retO_ret ?_ ?_ | with_reducible refine retO_normal ?_ ?_ | with_reducible refine And.intro (show logOk _ _ = true by kernel_rfl) ?_ | simp (maxSteps := 10000000) (implicitDefEqProofs := false) (disch := omega) only [wrap_id, wrap8, max_r, max_l, min_r, min_l] | (with_reducible refine br_intro (fun hb => ?_) (fun hb => ?_) <;> (try simp only [hb])) | (with_reducible refine And.intro (by first | omega | (simp; done) | (simp; omega)) ?_) | simp (maxSteps := 10000000) (implicitDefEqProofs := false) only [go_sem, Nat.reduceEqDiff, Nat.reduceBEq, ↓reduceIte, Nat.reduceAdd, Nat.reduceMul, Nat.reduceSub, Nat.reduceLeDiff, Nat.reduceLT, reduceCtorEq, Int.reduceLE, Int.reduceLT, Int.reduceToNat, Int.reduceBEq, hm, zeros_R, zeroL_len, hkl, (ht _ hkl).1, (ht _ hkl).2, hdz, List.append_nil, List.length_map] | fail))
      all_goals skip
end Go.Proofs.YtdakeodebgggfaaDoor

/- Principals got of values: the reference's way. -/
namespace Go.Proofs.YtdakeodebgggfaaDoor
open Go.RowKit
set_option linter.unusedVariables false
set_option linter.unusedSimpArgs false
set_option maxRecDepth 100000
set_option maxHeartbeats 2000000
theorem rkget_m {G : Nat → Option (List D)} (v : Tree) {cs : List D} (hcs : treeC v = cs) : Spec Tryd.prog G 23 [.g cs] (.many [.g (keyD (rgetK v)), .c (.v (.bool (rgetK v).isSome))]) := by
  subst hcs
  refine spec_of Tryd.func23 rfl rfl rfl (by kernel_rfl) rfl fun K => ?_
  rw [treeC_eq]
  have hg : rgetK v = if headB v tHash && v.kids.length == 3 && isB (v.kid 1) tSha && plainB (v.kid 2) 64 then some (true, (v.kid 2).data)
    else if headB v tPub && v.kids.length == 2 && headB (v.kid 1) tEd && (v.kid 1).kids.length == 2 && plainB ((v.kid 1).kid 1) 32 then some (false, ((v.kid 1).kid 1).data) else none := rfl
  by_cases h3 : v.kids.length = 3
  · have e1 := flat_at treeC_len (Tree.kid_get (t := v) (i := 1) (by omega))
    have e2 := flat_at treeC_len (Tree.kid_get (t := v) (i := 2) (by omega))
    obtain ⟨_, _, _, c3, _⟩ := ptr_cells e2
    simp only [Nat.reduceMul, Nat.reduceAdd] at e1 e2 c3
    (repeat' (first | with_reducible refine sound_seq_k fun Kn hK => ?_ | with_reducible refine sound_region (by kernel_rfl) ?_ | with_reducible refine sound_drawn (by kernel_rfl) (by kernel_rfl) ?_ | with_reducible refine sound_block ?_ | with_reducible refine sound_if ?_ | with_reducible refine sound_ret ?_ | with_reducible refine sound_skip ?_ | with_reducible refine sound_exit ?_ | (with_reducible refine hK _ ?_; clear hK; clear Kn) | (clear hK; clear Kn; with_reducible refine hK _ ?_; clear hK; clear Kn) | (clear hK; clear Kn; clear hK; clear Kn; with_reducible refine hK _ ?_; clear hK; clear Kn) | (refine ⟨_, headref_m v (by first | rfl | (rw [treeC_eq]; first | rfl | (simp only [go_sem, *]; done))) tHash, ?_⟩) | (refine ⟨_, headref_m v (by first | rfl | (rw [treeC_eq]; first | rfl | (simp only [go_sem, *]; done))) tPub, ?_⟩) | (refine ⟨_, isref_m (v.kid 1) (by first | rfl | (rw [treeC_eq]; first | rfl | (simp only [go_sem, *]; done))) tSha, ?_⟩) | (refine ⟨_, plain_m (v.kid 2) (by first | rfl | (rw [treeC_eq]; first | rfl | (simp only [go_sem, *]; done))) 64, ?_⟩) | with_reducible refine ex_bytes ?_ | with_reducible refine loopU_step ?_ | with_reducible refine retO_ret ?_ ?_ | with_reducible refine retO_normal ?_ ?_ | with_reducible refine And.intro (show logOk _ _ = true by kernel_rfl) ?_ | simp (maxSteps := 10000000) (implicitDefEqProofs := false) (disch := omega) only [wrap_id, wrap8, max_r, max_l, min_r, min_l] | (with_reducible refine br_intro (fun hb => ?_) (fun hb => ?_) <;> (try simp only [hb])) | (with_reducible refine And.intro (by first | omega | (simp; done) | (simp; omega)) ?_) | simp (maxSteps := 10000000) (implicitDefEqProofs := false) only [go_sem, Nat.reduceEqDiff, Nat.reduceBEq, ↓reduceIte, Nat.reduceAdd, Nat.reduceMul, Nat.reduceSub, Nat.reduceLeDiff, Nat.reduceLT, reduceCtorEq, Int.reduceLE, Int.reduceLT, Int.reduceToNat, Int.reduceBEq, h3, e1, e2, c3, int_beqL] | fail))
    all_goals (rw [hg, h3]; simp only [*]; rfl)
  · have n3 : (v.kids.length == 3) = false := by simpa using h3
    by_cases h2 : v.kids.length = 2
    · have e1 := flat_at treeC_len (Tree.kid_get (t := v) (i := 1) (by omega))
      obtain ⟨_, _, _, _, c4⟩ := ptr_cells e1
      simp only [Nat.reduceMul, Nat.reduceAdd] at e1 c4
      by_cases h4 : (v.kid 1).kids.length = 2
      · have e2 := flat_at treeC_len (Tree.kid_get (t := v.kid 1) (i := 1) (by omega))
        obtain ⟨_, _, _, c3, _⟩ := ptr_cells e2
        simp only [Nat.reduceMul, Nat.reduceAdd] at e2 c3
        (repeat' (first | with_reducible refine sound_seq_k fun Kn hK => ?_ | with_reducible refine sound_region (by kernel_rfl) ?_ | with_reducible refine sound_drawn (by kernel_rfl) (by kernel_rfl) ?_ | with_reducible refine sound_block ?_ | with_reducible refine sound_if ?_ | with_reducible refine sound_ret ?_ | with_reducible refine sound_skip ?_ | with_reducible refine sound_exit ?_ | (with_reducible refine hK _ ?_; clear hK; clear Kn) | (clear hK; clear Kn; with_reducible refine hK _ ?_; clear hK; clear Kn) | (clear hK; clear Kn; clear hK; clear Kn; with_reducible refine hK _ ?_; clear hK; clear Kn) | (refine ⟨_, headref_m v (by first | rfl | (rw [treeC_eq]; first | rfl | (simp only [go_sem, *]; done))) tHash, ?_⟩) | (refine ⟨_, headref_m v (by first | rfl | (rw [treeC_eq]; first | rfl | (simp only [go_sem, *]; done))) tPub, ?_⟩) | (refine ⟨_, headref_m (v.kid 1) (by first | rfl | (rw [treeC_eq]; first | rfl | (simp only [go_sem, *]; done))) tEd, ?_⟩) | (refine ⟨_, plain_m ((v.kid 1).kid 1) (by first | rfl | (rw [treeC_eq]; first | rfl | (simp only [go_sem, *]; done))) 32, ?_⟩) | with_reducible refine ex_bytes ?_ | with_reducible refine loopU_step ?_ | with_reducible refine retO_ret ?_ ?_ | with_reducible refine retO_normal ?_ ?_ | with_reducible refine And.intro (show logOk _ _ = true by kernel_rfl) ?_ | simp (maxSteps := 10000000) (implicitDefEqProofs := false) (disch := omega) only [wrap_id, wrap8, max_r, max_l, min_r, min_l] | (with_reducible refine br_intro (fun hb => ?_) (fun hb => ?_) <;> (try simp only [hb])) | (with_reducible refine And.intro (by first | omega | (simp; done) | (simp; omega)) ?_) | simp (maxSteps := 10000000) (implicitDefEqProofs := false) only [go_sem, Nat.reduceEqDiff, Nat.reduceBEq, ↓reduceIte, Nat.reduceAdd, Nat.reduceMul, Nat.reduceSub, Nat.reduceLeDiff, Nat.reduceLT, reduceCtorEq, Int.reduceLE, Int.reduceLT, Int.reduceToNat, Int.reduceBEq, h2, h4, e1, e2, c3, c4, int_beqL] | fail))
        all_goals (rw [hg, n3, h2, h4]; simp only [*, Bool.and_false, Bool.false_and]; rfl)
      · have n4 : ((v.kid 1).kids.length == 2) = false := by simpa using h4
        (repeat' (first | with_reducible refine sound_seq_k fun Kn hK => ?_ | with_reducible refine sound_region (by kernel_rfl) ?_ | with_reducible refine sound_drawn (by kernel_rfl) (by kernel_rfl) ?_ | with_reducible refine sound_block ?_ | with_reducible refine sound_if ?_ | with_reducible refine sound_ret ?_ | with_reducible refine sound_skip ?_ | with_reducible refine sound_exit ?_ | (with_reducible refine hK _ ?_; clear hK; clear Kn) | (clear hK; clear Kn; with_reducible refine hK _ ?_; clear hK; clear Kn) | (clear hK; clear Kn; clear hK; clear Kn; with_reducible refine hK _ ?_; clear hK; clear Kn) | (refine ⟨_, headref_m v (by first | rfl | (rw [treeC_eq]; first | rfl | (simp only [go_sem, *]; done))) tHash, ?_⟩) | (refine ⟨_, headref_m v (by first | rfl | (rw [treeC_eq]; first | rfl | (simp only [go_sem, *]; done))) tPub, ?_⟩) | (refine ⟨_, headref_m (v.kid 1) (by first | rfl | (rw [treeC_eq]; first | rfl | (simp only [go_sem, *]; done))) tEd, ?_⟩) | with_reducible refine ex_bytes ?_ | with_reducible refine loopU_step ?_ | with_reducible refine retO_ret ?_ ?_ | with_reducible refine retO_normal ?_ ?_ | with_reducible refine And.intro (show logOk _ _ = true by kernel_rfl) ?_ | simp (maxSteps := 10000000) (implicitDefEqProofs := false) (disch := omega) only [wrap_id, wrap8, max_r, max_l, min_r, min_l] | (with_reducible refine br_intro (fun hb => ?_) (fun hb => ?_) <;> (try simp only [hb])) | (with_reducible refine And.intro (by first | omega | (simp; done) | (simp; omega)) ?_) | simp (maxSteps := 10000000) (implicitDefEqProofs := false) only [go_sem, Nat.reduceEqDiff, Nat.reduceBEq, ↓reduceIte, Nat.reduceAdd, Nat.reduceMul, Nat.reduceSub, Nat.reduceLeDiff, Nat.reduceLT, reduceCtorEq, Int.reduceLE, Int.reduceLT, Int.reduceToNat, Int.reduceBEq, h2, e1, c4, int_beqL, n4] | fail))
        all_goals (rw [hg, n3, h2, n4]; simp only [*, Bool.and_false, Bool.false_and]; rfl)
    · have n2 : (v.kids.length == 2) = false := by simpa using h2
      (repeat' (first | with_reducible refine sound_seq_k fun Kn hK => ?_ | with_reducible refine sound_region (by kernel_rfl) ?_ | with_reducible refine sound_drawn (by kernel_rfl) (by kernel_rfl) ?_ | with_reducible refine sound_block ?_ | with_reducible refine sound_if ?_ | with_reducible refine sound_ret ?_ | with_reducible refine sound_skip ?_ | with_reducible refine sound_exit ?_ | (with_reducible refine hK _ ?_; clear hK; clear Kn) | (clear hK; clear Kn; with_reducible refine hK _ ?_; clear hK; clear Kn) | (clear hK; clear Kn; clear hK; clear Kn; with_reducible refine hK _ ?_; clear hK; clear Kn) | (refine ⟨_, headref_m v (by first | rfl | (rw [treeC_eq]; first | rfl | (simp only [go_sem, *]; done))) tHash, ?_⟩) | (refine ⟨_, headref_m v (by first | rfl | (rw [treeC_eq]; first | rfl | (simp only [go_sem, *]; done))) tPub, ?_⟩) | with_reducible refine ex_bytes ?_ | with_reducible refine loopU_step ?_ | with_reducible refine retO_ret ?_ ?_ | with_reducible refine retO_normal ?_ ?_ | with_reducible refine And.intro (show logOk _ _ = true by kernel_rfl) ?_ | simp (maxSteps := 10000000) (implicitDefEqProofs := false) (disch := omega) only [wrap_id, wrap8, max_r, max_l, min_r, min_l] | (with_reducible refine br_intro (fun hb => ?_) (fun hb => ?_) <;> (try simp only [hb])) | (with_reducible refine And.intro (by first | omega | (simp; done) | (simp; omega)) ?_) | simp (maxSteps := 10000000) (implicitDefEqProofs := false) only [go_sem, Nat.reduceEqDiff, Nat.reduceBEq, ↓reduceIte, Nat.reduceAdd, Nat.reduceMul, Nat.reduceSub, Nat.reduceLeDiff, Nat.reduceLT, reduceCtorEq, Int.reduceLE, Int.reduceLT, Int.reduceToNat, Int.reduceBEq, n2, n3, int_beqL] | fail))
      all_goals (rw [hg, n3, n2]; simp only [Bool.and_false, Bool.false_and]; rfl)
end Go.Proofs.YtdakeodebgggfaaDoor
