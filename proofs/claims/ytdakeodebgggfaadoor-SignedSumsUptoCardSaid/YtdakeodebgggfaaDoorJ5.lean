/- Parts of the proof, laid together. -/
import Derived.Test.YtdakeodebgggfaaDoorJ4

/- Whose a principal is; the example; the laws. -/
namespace Go.Proofs.YtdakeodebgggfaaDoor
open Go.RowKit
set_option linter.unusedVariables false
set_option linter.unusedSimpArgs false
set_option maxRecDepth 100000
set_option maxHeartbeats 2000000
/-- Is a principal a public key's? -/
def isK (s : Bool) (d p : List UInt8) : Bool := keyMay s d && p.length == 32 && (if s then d == keySum p else d == p)
theorem rkid_m {G : Nat → Option (List D)} (s : Bool) (d : List UInt8) (hd : d.length ≤ 1000000) : Spec Tryd.prog G 29 [.g (keyC s d)] (.one (.c (.v (.string ⟨(if s then d else keySum d).toArray⟩)))) := by
  have hl := keySum_len d
  cases s with
  | true =>
    refine spec_of Tryd.func29 rfl rfl rfl (by kernel_rfl) rfl fun K => ?_
    (repeat' (first | with_reducible refine sound_seq_k fun Kn hK => ?_ | with_reducible refine sound_region (by kernel_rfl) ?_ | with_reducible refine sound_drawn (by kernel_rfl) (by kernel_rfl) ?_ | with_reducible refine sound_block ?_ | with_reducible refine sound_if ?_ | with_reducible refine sound_ret ?_ | with_reducible refine sound_skip ?_ | with_reducible refine sound_exit ?_ | (with_reducible refine hK _ ?_; clear hK; clear Kn) | (clear hK; clear Kn; with_reducible refine hK _ ?_; clear hK; clear Kn) | (clear hK; clear Kn; clear hK; clear Kn; with_reducible refine hK _ ?_; clear hK; clear Kn) | fail | with_reducible refine ex_bytes ?_ | with_reducible refine loopU_step ?_ | with_reducible refine retO_ret ?_ ?_ | with_reducible refine retO_normal ?_ ?_ | with_reducible refine And.intro (show logOk _ _ = true by kernel_rfl) ?_ | simp (maxSteps := 10000000) (implicitDefEqProofs := false) (disch := omega) only [wrap_id, wrap8, max_r, max_l, min_r, min_l] | (with_reducible refine br_intro (fun hb => ?_) (fun hb => ?_) <;> (try simp only [hb])) | (with_reducible refine And.intro (by first | omega | (simp; done) | (simp; omega)) ?_) | simp (maxSteps := 10000000) (implicitDefEqProofs := false) only [go_sem, Nat.reduceEqDiff, Nat.reduceBEq, ↓reduceIte, Nat.reduceAdd, Nat.reduceMul, Nat.reduceSub, Nat.reduceLeDiff, Nat.reduceLT, reduceCtorEq, Int.reduceLE, Int.reduceLT, Int.reduceToNat, Int.reduceBEq, true_and] | fail))
  | false =>
    refine spec_of Tryd.func29 rfl rfl rfl (by kernel_rfl) rfl fun K => ?_
    (repeat' (first | with_reducible refine sound_seq_k fun Kn hK => ?_ | with_reducible refine sound_region (by kernel_rfl) ?_ | with_reducible refine sound_drawn (by kernel_rfl) (by kernel_rfl) ?_ | with_reducible refine sound_block ?_ | with_reducible refine sound_if ?_ | with_reducible refine sound_ret ?_ | with_reducible refine sound_skip ?_ | with_reducible refine sound_exit ?_ | (with_reducible refine hK _ ?_; clear hK; clear Kn) | (clear hK; clear Kn; with_reducible refine hK _ ?_; clear hK; clear Kn) | (clear hK; clear Kn; clear hK; clear Kn; with_reducible refine hK _ ?_; clear hK; clear Kn) | (refine ⟨_, rksum_m d hd, ?_⟩) | with_reducible refine ex_bytes ?_ | with_reducible refine loopU_step ?_ | with_reducible refine retO_ret ?_ ?_ | with_reducible refine retO_normal ?_ ?_ | with_reducible refine And.intro (show logOk _ _ = true by kernel_rfl) ?_ | simp (maxSteps := 10000000) (implicitDefEqProofs := false) (disch := omega) only [wrap_id, wrap8, max_r, max_l, min_r, min_l] | (with_reducible refine br_intro (fun hb => ?_) (fun hb => ?_) <;> (try simp only [hb])) | (with_reducible refine And.intro (by first | omega | (simp; done) | (simp; omega)) ?_) | simp (maxSteps := 10000000) (implicitDefEqProofs := false) only [go_sem, Nat.reduceEqDiff, Nat.reduceBEq, ↓reduceIte, Nat.reduceAdd, Nat.reduceMul, Nat.reduceSub, Nat.reduceLeDiff, Nat.reduceLT, reduceCtorEq, Int.reduceLE, Int.reduceLT, Int.reduceToNat, Int.reduceBEq, true_and] | fail))
theorem rkis_m {G : Nat → Option (List D)} (s : Bool) (d p : List UInt8) (hp : p.length ≤ 1000000) : Spec Tryd.prog G 31 [.g (keyC s d), .c (bytesD p)] (.one (.c (.v (.bool (isK s d p))))) := by
  have hi : isK s d p = (keyMay s d && p.length == 32 && (if s then d == keySum p else d == p)) := rfl
  rw [hi]
  cases hm : keyMay s d with
  | false =>
    refine spec_of Tryd.func31 rfl rfl rfl (by kernel_rfl) rfl fun K => ?_
    (repeat' (first | with_reducible refine sound_seq_k fun Kn hK => ?_ | with_reducible refine sound_region (by kernel_rfl) ?_ | with_reducible refine sound_drawn (by kernel_rfl) (by kernel_rfl) ?_ | with_reducible refine sound_block ?_ | with_reducible refine sound_if ?_ | with_reducible refine sound_ret ?_ | with_reducible refine sound_skip ?_ | with_reducible refine sound_exit ?_ | (with_reducible refine hK _ ?_; clear hK; clear Kn) | (clear hK; clear Kn; with_reducible refine hK _ ?_; clear hK; clear Kn) | (clear hK; clear Kn; clear hK; clear Kn; with_reducible refine hK _ ?_; clear hK; clear Kn) | (refine ⟨_, rkmay_m s d, ?_⟩) | with_reducible refine ex_bytes ?_ | with_reducible refine loopU_step ?_ | with_reducible refine retO_ret ?_ ?_ | with_reducible refine retO_normal ?_ ?_ | with_reducible refine And.intro (show logOk _ _ = true by kernel_rfl) ?_ | simp (maxSteps := 10000000) (implicitDefEqProofs := false) (disch := omega) only [wrap_id, wrap8, max_r, max_l, min_r, min_l] | (with_reducible refine br_intro (fun hb => ?_) (fun hb => ?_) <;> (try simp only [hb])) | (with_reducible refine And.intro (by first | omega | (simp; done) | (simp; omega)) ?_) | simp (maxSteps := 10000000) (implicitDefEqProofs := false) only [go_sem, Nat.reduceEqDiff, Nat.reduceBEq, ↓reduceIte, Nat.reduceAdd, Nat.reduceMul, Nat.reduceSub, Nat.reduceLeDiff, Nat.reduceLT, reduceCtorEq, Int.reduceLE, Int.reduceLT, Int.reduceToNat, Int.reduceBEq, hm, int_beqL] | fail))
    all_goals simp
  | true =>
    cases hl : p.length == 32 with
    | false =>
      refine spec_of Tryd.func31 rfl rfl rfl (by kernel_rfl) rfl fun K => ?_
      (repeat' (first | with_reducible refine sound_seq_k fun Kn hK => ?_ | with_reducible refine sound_region (by kernel_rfl) ?_ | with_reducible refine sound_drawn (by kernel_rfl) (by kernel_rfl) ?_ | with_reducible refine sound_block ?_ | with_reducible refine sound_if ?_ | with_reducible refine sound_ret ?_ | with_reducible refine sound_skip ?_ | with_reducible refine sound_exit ?_ | (with_reducible refine hK _ ?_; clear hK; clear Kn) | (clear hK; clear Kn; with_reducible refine hK _ ?_; clear hK; clear Kn) | (clear hK; clear Kn; clear hK; clear Kn; with_reducible refine hK _ ?_; clear hK; clear Kn) | (refine ⟨_, rkmay_m s d, ?_⟩) | with_reducible refine ex_bytes ?_ | with_reducible refine loopU_step ?_ | with_reducible refine retO_ret ?_ ?_ | with_reducible refine retO_normal ?_ ?_ | with_reducible refine And.intro (show logOk _ _ = true by kernel_rfl) ?_ | simp (maxSteps := 10000000) (implicitDefEqProofs := false) (disch := omega) only [wrap_id, wrap8, max_r, max_l, min_r, min_l] | (with_reducible refine br_intro (fun hb => ?_) (fun hb => ?_) <;> (try simp only [hb])) | (with_reducible refine And.intro (by first | omega | (simp; done) | (simp; omega)) ?_) | simp (maxSteps := 10000000) (implicitDefEqProofs := false) only [go_sem, Nat.reduceEqDiff, Nat.reduceBEq, ↓reduceIte, Nat.reduceAdd, Nat.reduceMul, Nat.reduceSub, Nat.reduceLeDiff, Nat.reduceLT, reduceCtorEq, Int.reduceLE, Int.reduceLT, Int.reduceToNat, Int.reduceBEq, hm, hl, int_beqL] | fail))
      all_goals simp
    | true =>
      cases s with
      | true =>
        refine spec_of Tryd.func31 rfl rfl rfl (by kernel_rfl) rfl fun K => ?_
        (repeat' (first | with_reducible refine sound_seq_k fun Kn hK => ?_ | with_reducible refine sound_region (by kernel_rfl) ?_ | with_reducible refine sound_drawn (by kernel_rfl) (by kernel_rfl) ?_ | with_reducible refine sound_block ?_ | with_reducible refine sound_if ?_ | with_reducible refine sound_ret ?_ | with_reducible refine sound_skip ?_ | with_reducible refine sound_exit ?_ | (with_reducible refine hK _ ?_; clear hK; clear Kn) | (clear hK; clear Kn; with_reducible refine hK _ ?_; clear hK; clear Kn) | (clear hK; clear Kn; clear hK; clear Kn; with_reducible refine hK _ ?_; clear hK; clear Kn) | (refine ⟨_, rkmay_m true d, ?_⟩) | (refine ⟨_, rksum_m p hp, ?_⟩) | (refine ⟨_, rksame_m true true d (keySum p), ?_⟩) | with_reducible refine ex_bytes ?_ | with_reducible refine loopU_step ?_ | with_reducible refine retO_ret ?_ ?_ | with_reducible refine retO_normal ?_ ?_ | with_reducible refine And.intro (show logOk _ _ = true by kernel_rfl) ?_ | simp (maxSteps := 10000000) (implicitDefEqProofs := false) (disch := omega) only [wrap_id, wrap8, max_r, max_l, min_r, min_l] | (with_reducible refine br_intro (fun hb => ?_) (fun hb => ?_) <;> (try simp only [hb])) | (with_reducible refine And.intro (by first | omega | (simp; done) | (simp; omega)) ?_) | simp (maxSteps := 10000000) (implicitDefEqProofs := false) only [go_sem, Nat.reduceEqDiff, Nat.reduceBEq, ↓reduceIte, Nat.reduceAdd, Nat.reduceMul, Nat.reduceSub, Nat.reduceLeDiff, Nat.reduceLT, reduceCtorEq, Int.reduceLE, Int.reduceLT, Int.reduceToNat, Int.reduceBEq, hm, hl, int_beqL] | fail))
        all_goals simp
      | false =>
        refine spec_of Tryd.func31 rfl rfl rfl (by kernel_rfl) rfl fun K => ?_
        (repeat' (first | with_reducible refine sound_seq_k fun Kn hK => ?_ | with_reducible refine sound_region (by kernel_rfl) ?_ | with_reducible refine sound_drawn (by kernel_rfl) (by kernel_rfl) ?_ | with_reducible refine sound_block ?_ | with_reducible refine sound_if ?_ | with_reducible refine sound_ret ?_ | with_reducible refine sound_skip ?_ | with_reducible refine sound_exit ?_ | (with_reducible refine hK _ ?_; clear hK; clear Kn) | (clear hK; clear Kn; with_reducible refine hK _ ?_; clear hK; clear Kn) | (clear hK; clear Kn; clear hK; clear Kn; with_reducible refine hK _ ?_; clear hK; clear Kn) | (refine ⟨_, rkmay_m false d, ?_⟩) | with_reducible refine ex_bytes ?_ | with_reducible refine loopU_step ?_ | with_reducible refine retO_ret ?_ ?_ | with_reducible refine retO_normal ?_ ?_ | with_reducible refine And.intro (show logOk _ _ = true by kernel_rfl) ?_ | simp (maxSteps := 10000000) (implicitDefEqProofs := false) (disch := omega) only [wrap_id, wrap8, max_r, max_l, min_r, min_l] | (with_reducible refine br_intro (fun hb => ?_) (fun hb => ?_) <;> (try simp only [hb])) | (with_reducible refine And.intro (by first | omega | (simp; done) | (simp; omega)) ?_) | simp (maxSteps := 10000000) (implicitDefEqProofs := false) only [go_sem, Nat.reduceEqDiff, Nat.reduceBEq, ↓reduceIte, Nat.reduceAdd, Nat.reduceMul, Nat.reduceSub, Nat.reduceLeDiff, Nat.reduceLT, reduceCtorEq, Int.reduceLE, Int.reduceLT, Int.reduceToNat, Int.reduceBEq, hm, hl, int_beqL] | fail))
        all_goals simp
theorem kis_m {G : Nat → Option (List D)} (hG : G 0 = some powD) (s : Bool) (d p : List UInt8) (hp : p.length ≤ 1000000) : Spec Tryd.prog G 30 [.g (keyC s d), .c (bytesD p)] (.one (.c (.v (.bool (isK s d p))))) := by
  have hi : isK s d p = (keyMay s d && p.length == 32 && (if s then d == keySum p else d == p)) := rfl
  have hq : keyMay false p = (p.length == 32) := rfl
  rw [hi]
  cases hl : p.length == 32 with
  | false =>
    rw [hl] at hq
    refine spec_of Tryd.func30 rfl rfl rfl (by kernel_rfl) rfl fun K => ?_
    (repeat' (first | with_reducible refine sound_seq_k fun Kn hK => ?_ | with_reducible refine sound_region (by kernel_rfl) ?_ | with_reducible refine sound_drawn (by kernel_rfl) (by kernel_rfl) ?_ | with_reducible refine sound_block ?_ | with_reducible refine sound_if ?_ | with_reducible refine sound_ret ?_ | with_reducible refine sound_skip ?_ | with_reducible refine sound_exit ?_ | (with_reducible refine hK _ ?_; clear hK; clear Kn) | (clear hK; clear Kn; with_reducible refine hK _ ?_; clear hK; clear Kn) | (clear hK; clear Kn; clear hK; clear Kn; with_reducible refine hK _ ?_; clear hK; clear Kn) | (refine ⟨_, kmay_m false p, ?_⟩) | with_reducible refine ex_bytes ?_ | with_reducible refine loopU_step ?_ | with_reducible refine retO_ret ?_ ?_ | with_reducible refine retO_normal ?_ ?_ | with_reducible refine And.intro (show logOk _ _ = true by kernel_rfl) ?_ | simp (maxSteps := 10000000) (implicitDefEqProofs := false) (disch := omega) only [wrap_id, wrap8, max_r, max_l, min_r, min_l] | (with_reducible refine br_intro (fun hb => ?_) (fun hb => ?_) <;> (try simp only [hb])) | (with_reducible refine And.intro (by first | omega | (simp; done) | (simp; omega)) ?_) | simp (maxSteps := 10000000) (implicitDefEqProofs := false) only [go_sem, Nat.reduceEqDiff, Nat.reduceBEq, ↓reduceIte, Nat.reduceAdd, Nat.reduceMul, Nat.reduceSub, Nat.reduceLeDiff, Nat.reduceLT, reduceCtorEq, Int.reduceLE, Int.reduceLT, Int.reduceToNat, Int.reduceBEq, hq, int_beqL] | fail))
    all_goals simp
  | true =>
    rw [hl] at hq
    have hs := ksum_m (G := G) hG p hp
    rw [hl, if_pos rfl, if_pos rfl] at hs
    cases hm : keyMay s d with
    | false =>
      refine spec_of Tryd.func30 rfl rfl rfl (by kernel_rfl) rfl fun K => ?_
      (repeat' (first | with_reducible refine sound_seq_k fun Kn hK => ?_ | with_reducible refine sound_region (by kernel_rfl) ?_ | with_reducible refine sound_drawn (by kernel_rfl) (by kernel_rfl) ?_ | with_reducible refine sound_block ?_ | with_reducible refine sound_if ?_ | with_reducible refine sound_ret ?_ | with_reducible refine sound_skip ?_ | with_reducible refine sound_exit ?_ | (with_reducible refine hK _ ?_; clear hK; clear Kn) | (clear hK; clear Kn; with_reducible refine hK _ ?_; clear hK; clear Kn) | (clear hK; clear Kn; clear hK; clear Kn; with_reducible refine hK _ ?_; clear hK; clear Kn) | (refine ⟨_, kmay_m false p, ?_⟩) | (refine ⟨_, kmay_m s d, ?_⟩) | with_reducible refine ex_bytes ?_ | with_reducible refine loopU_step ?_ | with_reducible refine retO_ret ?_ ?_ | with_reducible refine retO_normal ?_ ?_ | with_reducible refine And.intro (show logOk _ _ = true by kernel_rfl) ?_ | simp (maxSteps := 10000000) (implicitDefEqProofs := false) (disch := omega) only [wrap_id, wrap8, max_r, max_l, min_r, min_l] | (with_reducible refine br_intro (fun hb => ?_) (fun hb => ?_) <;> (try simp only [hb])) | (with_reducible refine And.intro (by first | omega | (simp; done) | (simp; omega)) ?_) | simp (maxSteps := 10000000) (implicitDefEqProofs := false) only [go_sem, Nat.reduceEqDiff, Nat.reduceBEq, ↓reduceIte, Nat.reduceAdd, Nat.reduceMul, Nat.reduceSub, Nat.reduceLeDiff, Nat.reduceLT, reduceCtorEq, Int.reduceLE, Int.reduceLT, Int.reduceToNat, Int.reduceBEq, hq, hm, int_beqL] | fail))
      all_goals simp
    | true =>
      cases s with
      | true =>
        refine spec_of Tryd.func30 rfl rfl rfl (by kernel_rfl) rfl fun K => ?_
        (repeat' (first | with_reducible refine sound_seq_k fun Kn hK => ?_ | with_reducible refine sound_region (by kernel_rfl) ?_ | with_reducible refine sound_drawn (by kernel_rfl) (by kernel_rfl) ?_ | with_reducible refine sound_block ?_ | with_reducible refine sound_if ?_ | with_reducible refine sound_ret ?_ | with_reducible refine sound_skip ?_ | with_reducible refine sound_exit ?_ | (with_reducible refine hK _ ?_; clear hK; clear Kn) | (clear hK; clear Kn; with_reducible refine hK _ ?_; clear hK; clear Kn) | (clear hK; clear Kn; clear hK; clear Kn; with_reducible refine hK _ ?_; clear hK; clear Kn) | (refine ⟨_, kmay_m false p, ?_⟩) | (refine ⟨_, kmay_m true d, ?_⟩) | (refine ⟨_, hs, ?_⟩) | (refine ⟨_, ksame_m true true d (keySum p), ?_⟩) | with_reducible refine ex_bytes ?_ | with_reducible refine loopU_step ?_ | with_reducible refine retO_ret ?_ ?_ | with_reducible refine retO_normal ?_ ?_ | with_reducible refine And.intro (show logOk _ _ = true by kernel_rfl) ?_ | simp (maxSteps := 10000000) (implicitDefEqProofs := false) (disch := omega) only [wrap_id, wrap8, max_r, max_l, min_r, min_l] | (with_reducible refine br_intro (fun hb => ?_) (fun hb => ?_) <;> (try simp only [hb])) | (with_reducible refine And.intro (by first | omega | (simp; done) | (simp; omega)) ?_) | simp (maxSteps := 10000000) (implicitDefEqProofs := false) only [go_sem, Nat.reduceEqDiff, Nat.reduceBEq, ↓reduceIte, Nat.reduceAdd, Nat.reduceMul, Nat.reduceSub, Nat.reduceLeDiff, Nat.reduceLT, reduceCtorEq, Int.reduceLE, Int.reduceLT, Int.reduceToNat, Int.reduceBEq, hq, hm, int_beqL] | fail))
        all_goals simp
      | false =>
        refine spec_of Tryd.func30 rfl rfl rfl (by kernel_rfl) rfl fun K => ?_
        (repeat' (first | with_reducible refine sound_seq_k fun Kn hK => ?_ | with_reducible refine sound_region (by kernel_rfl) ?_ | with_reducible refine sound_drawn (by kernel_rfl) (by kernel_rfl) ?_ | with_reducible refine sound_block ?_ | with_reducible refine sound_if ?_ | with_reducible refine sound_ret ?_ | with_reducible refine sound_skip ?_ | with_reducible refine sound_exit ?_ | (with_reducible refine hK _ ?_; clear hK; clear Kn) | (clear hK; clear Kn; with_reducible refine hK _ ?_; clear hK; clear Kn) | (clear hK; clear Kn; clear hK; clear Kn; with_reducible refine hK _ ?_; clear hK; clear Kn) | (refine ⟨_, kmay_m false p, ?_⟩) | (refine ⟨_, kmay_m false d, ?_⟩) | (refine ⟨_, ksame_m false false d p, ?_⟩) | with_reducible refine ex_bytes ?_ | with_reducible refine loopU_step ?_ | with_reducible refine retO_ret ?_ ?_ | with_reducible refine retO_normal ?_ ?_ | with_reducible refine And.intro (show logOk _ _ = true by kernel_rfl) ?_ | simp (maxSteps := 10000000) (implicitDefEqProofs := false) (disch := omega) only [wrap_id, wrap8, max_r, max_l, min_r, min_l] | (with_reducible refine br_intro (fun hb => ?_) (fun hb => ?_) <;> (try simp only [hb])) | (with_reducible refine And.intro (by first | omega | (simp; done) | (simp; omega)) ?_) | simp (maxSteps := 10000000) (implicitDefEqProofs := false) only [go_sem, Nat.reduceEqDiff, Nat.reduceBEq, ↓reduceIte, Nat.reduceAdd, Nat.reduceMul, Nat.reduceSub, Nat.reduceLeDiff, Nat.reduceLT, reduceCtorEq, Int.reduceLE, Int.reduceLT, Int.reduceToNat, Int.reduceBEq, hq, hm, int_beqL] | fail))
        all_goals simp
end Go.Proofs.YtdakeodebgggfaaDoor

/- The example of layer 14; principals and public keys. -/
namespace Go.Proofs.YtdakeodebgggfaaDoor
open Go.RowKit
set_option linter.unusedVariables false
set_option linter.unusedSimpArgs false
set_option maxRecDepth 100000
set_option maxHeartbeats 4000000
theorem form14 : (keyV false (zeroL 32)).form = [40, 49, 48, 58, 112, 117, 98, 108, 105, 99, 45, 107, 101, 121, 40, 55, 58, 101, 100, 50, 53, 53, 49, 57, 51] ++ ([50, 58] ++ zeroL 32 ++ [41, 41]) := by
  simp only [keyV, Bool.false_eq_true, ↓reduceIte, listT, atomT, Tree.form_eq, Tree.list, Tree.kids, Tree.atomF, Tree.hinted, Tree.hint, Tree.data, List.map_cons, List.map_nil, List.flatten_cons, List.flatten_nil, zeroL, textB, List.length_replicate]
  decide +kernel
theorem awake14_m {G : Nat → Option (List D)} (hG : G 0 = some powD) : Spec Tryd.prog G 14 [] (.one (.c (.v (.bool true)))) := by
  have h1 := kput_m (G := G) false (zeroL 32) (by simp [zeroL_len])
  have ho : keyOut false (zeroL 32) = keyV false (zeroL 32) := by rw [keyOut, keyMay, zeroL_len]; rfl
  have he : keyErr false (zeroL 32) = 0 := by rw [keyErr, keyMay, zeroL_len]; rfl
  rw [ho, he] at h1
  have h2 := sput_m (G := G) hG (keyV false (zeroL 32)) rfl (by have := keyV_wt (s := false) (d := zeroL 32); rw [zeroL_len] at this; omega)
  rw [keyV_may (zeroL_len 32), if_pos rfl] at h2
  have hl : (keyV false (zeroL 32)).form.length = 61 := by rw [form14]; simp [zeroL_len]
  have ht : ((keyV false (zeroL 32)).form.map bD).take 25 = [40, 49, 48, 58, 112, 117, 98, 108, 105, 99, 45, 107, 101, 121, 40, 55, 58, 101, 100, 50, 53, 53, 49, 57, 51].map bD := by
    rw [← List.map_take, form14]
    rfl
  rw [bytesD, hl] at h2
  generalize (keyV false (zeroL 32)).form = f at *
  have hc := treeC_len (keyV false (zeroL 32))
  generalize treeC (keyV false (zeroL 32)) = T at *
  have ht5 : T.take 5 = T := List.take_of_length_le (by omega)
  have ht5' : (T.map C.d).take 5 = T.map C.d := List.take_of_length_le (by rw [List.length_map]; omega)
  have h61 : decide (((61 : Nat) : Int) > 30) = true := by decide
  refine spec_of Tryd.func14 rfl rfl rfl (by kernel_rfl) rfl fun K => ?_
  (repeat' (first | with_reducible refine sound_seq_k fun Kn hK => ?_ | with_reducible refine sound_region (by kernel_rfl) ?_ | with_reducible refine sound_drawn (by kernel_rfl) (by kernel_rfl) ?_ | with_reducible refine sound_block ?_ | with_reducible refine sound_if ?_ | with_reducible refine sound_ret ?_ | with_reducible refine sound_skip ?_ | with_reducible refine sound_exit ?_ | (with_reducible refine hK _ ?_; clear hK; clear Kn) | (clear hK; clear Kn; with_reducible refine hK _ ?_; clear hK; clear Kn) | (clear hK; clear Kn; clear hK; clear Kn; with_reducible refine hK _ ?_; clear hK; clear Kn) | (refine ⟨none, ?_⟩) | (refine ⟨_, h1, ?_⟩) | (refine ⟨_, h2, ?_⟩) | (refine ⟨[40, 49, 48, 58, 112, 117, 98, 108, 105, 99, 45, 107, 101, 121, 40, 55, 58, 101, 100, 50, 53, 53, 49, 57, 51], ⟨rfl, rfl⟩, ?_⟩) | with_reducible refine ex_bytes ?_ | with_reducible refine loopU_step ?_ | with_reducible refine retO_ret ?_ ?_ | with_reducible refine retO_normal ?_ ?_ | with_reducible refine And.intro (show logOk _ _ = true by kernel_rfl) ?_ | simp (maxSteps := 10000000) (implicitDefEqProofs := false) (disch := omega) only [wrap_id, wrap8, max_r, max_l, min_r, min_l] | (with_reducible refine br_intro (fun hb => ?_) (fun hb => ?_) <;> (try simp only [hb])) | (with_reducible refine And.intro (by first | omega | (simp; done) | (simp; omega)) ?_) | simp (maxSteps := 10000000) (implicitDefEqProofs := false) only [go_sem, Nat.reduceEqDiff, Nat.reduceBEq, ↓reduceIte, Nat.reduceAdd, Nat.reduceMul, Nat.reduceSub, Nat.reduceLeDiff, Nat.reduceLT, reduceCtorEq, Int.reduceLE, Int.reduceLT, Int.reduceToNat, Int.reduceBEq, zeros_C, zeros_take, List.length_map, zeroL_len, ht, hc, ht5, ht5', h61] | fail))
theorem u8_kd : Tryd.prog.underlying 5 = some (.int .u8) := Tryd.underlying5
theorem keyis_m {G : Nat → Option (List D)} (hG : G 0 = some powD) (k : Bool × List UInt8) (p : List UInt8) (hk : k.2.length ≤ 2000000) (hp : p.length ≤ 2000000) :
    Spec Tryd.prog G 8 [.g (keyC k.1 k.2), .c (bytesD p)] (.one (.c (.v (.bool true)))) := by
  obtain ⟨s, d⟩ := k
  dsimp only at hk ⊢
  have ha := awake14_m (G := G) hG
  by_cases hd2 : d.length ≤ 200
  · by_cases hp2 : p.length ≤ 200
    · have b1 : decide ((d.length : Int) > 200) = false := by simp; omega
      have b2 : decide ((p.length : Int) > 200) = false := by simp; omega
      have hid := kid14_m (G := G) hG s d (by omega)
      have hil := idL_len s d
      have hI : idL s d = if keyMay s d then (if s then d else keySum d) else zeroL 64 := rfl
      have hm1 := rkmay_m (G := G) s d
      have hri := rkid_m (G := G) s d (by omega)
      have hks := ksum_m (G := G) hG p (by omega)
      have his := kis_m (G := G) hG s d p (by omega)
      have hris := rkis_m (G := G) s d p (by omega)
      have hsm := ksame_m (G := G) s s d d
      have hrsm := rksame_m (G := G) s s d d
      have he : keyErr s d = if keyMay s d then 0 else 7 := rfl
      have hfl : (((idL s d).map bD).map C.d).length = 64 := by rw [List.length_map, List.length_map, hil]
      have htk : (((idL s d).map bD).map C.d).take 64 = ((idL s d).map bD).map C.d := List.take_of_length_le (by omega)
      have htd : ((idL s d).map bD).take 64 = (idL s d).map bD := List.take_of_length_le (by rw [List.length_map]; omega)
      have hKL := keyL_bytes (P := Tryd.prog) (t := 52) (e := 5) (n := 64) (l := zeroL 64) Tryd.underlying52 u8_kd (by kernel_rfl) (by kernel_rfl) (zeroL_len 64)
      have hss : (s == s && d == d) = true := by simp
      rw [hss] at hsm hrsm
      have hsp := rksum_m (G := G) p (by omega)
      have hks1 := rksame_m (G := G) true true (keySum p) (keySum p)
      have hks2 := kis_m (G := G) hG true (keySum p) p (by omega)
      have hks3 := kis_m (G := G) hG false p p (by omega)
      have hks4 := ksame_m (G := G) true false (keySum p) p
      have q1 : (true == true && keySum p == keySum p) = true := by simp
      have q2 : (true == false && keySum p == p) = false := rfl
      have q3 : isK true (keySum p) p = (p.length == 32) := by simp [isK, keyMay, keySum_len]
      have q4 : isK false p p = (p.length == 32) := by simp [isK, keyMay]
      rw [q1] at hks1
      rw [q2] at hks4
      rw [q3] at hks2
      rw [q4] at hks3
      have hkl := keySum_len p
      have hdz : (((zeroL 64).map bD).map C.d).drop 64 = [] := by simp [zeroL]
      cases hm : keyMay s d with
      | false =>
        have hik : isK s d p = false := by rw [isK, hm]; rfl
        rw [hm] at hI he hm1
        rw [hik] at his hris
        have hI' : idL s d = zeroL 64 := hI
        rw [hI', show keyErr s d = 7 from he] at hid
        rw [hI'] at htk htd hfl
        cases hl : p.length == 32 with
        | false =>
          rw [hl, if_neg (by simp), if_neg (by simp)] at hks
          refine spec_of Tryd.func8 rfl rfl rfl (by kernel_rfl) rfl fun K => ?_
          (repeat' (first | with_reducible refine sound_seq_k fun Kn hK => ?_ | with_reducible refine sound_region (by kernel_rfl) ?_ | with_reducible refine sound_drawn (by kernel_rfl) (by kernel_rfl) ?_ | with_reducible refine sound_block ?_ | with_reducible refine sound_if ?_ | with_reducible refine sound_ret ?_ | with_reducible refine sound_skip ?_ | with_reducible refine sound_exit ?_ | (with_reducible refine hK _ ?_; clear hK; clear Kn) | (clear hK; clear Kn; with_reducible refine hK _ ?_; clear hK; clear Kn) | (clear hK; clear Kn; clear hK; clear Kn; with_reducible refine hK _ ?_; clear hK; clear Kn) | (refine ⟨_, hid, ?_⟩) | (refine ⟨_, hm1, ?_⟩) | (refine run_agg_neq (b := true) (by kernel_rfl) hKL hKL (by simp) ?_) | (refine ⟨_, hks, ?_⟩) | (refine ⟨_, his, ?_⟩) | (refine ⟨_, hris, ?_⟩) | (refine ⟨_, hsm, ?_⟩) | (refine ⟨_, hrsm, ?_⟩) | (refine ⟨_, ha, ?_⟩) | with_reducible refine ex_bytes ?_ | with_reducible refine loopU_step ?_ | with_reducible refine retO_ret ?_ ?_ | with_reducible refine retO_normal ?_ ?_ | with_reducible refine And.intro (show logOk _ _ = true by kernel_rfl) ?_ | simp (maxSteps := 10000000) (implicitDefEqProofs := false) (disch := omega) only [wrap_id, wrap8, max_r, max_l, min_r, min_l] | (with_reducible refine br_intro (fun hb => ?_) (fun hb => ?_) <;> (try simp only [hb])) | (with_reducible refine And.intro (by first | omega | (simp; done) | (simp; omega)) ?_) | simp (maxSteps := 10000000) (implicitDefEqProofs := false) only [go_sem, Nat.reduceEqDiff, Nat.reduceBEq, ↓reduceIte, Nat.reduceAdd, Nat.reduceMul, Nat.reduceSub, Nat.reduceLeDiff, Nat.reduceLT, reduceCtorEq, Int.reduceLE, Int.reduceLT, Int.reduceToNat, Int.reduceBEq, b1, b2, List.length_map, zeros_R, zeroL_len, htk, htd, hfl, hdz, List.append_nil, int_beqL, hl] | fail))
        | true =>
          rw [hl, if_pos rfl, if_pos rfl] at hks
          rw [hl] at hks2 hks3
          refine spec_of Tryd.func8 rfl rfl rfl (by kernel_rfl) rfl fun K => ?_
          (repeat' (first | with_reducible refine sound_seq_k fun Kn hK => ?_ | with_reducible refine sound_region (by kernel_rfl) ?_ | with_reducible refine sound_drawn (by kernel_rfl) (by kernel_rfl) ?_ | with_reducible refine sound_block ?_ | with_reducible refine sound_if ?_ | with_reducible refine sound_ret ?_ | with_reducible refine sound_skip ?_ | with_reducible refine sound_exit ?_ | (with_reducible refine hK _ ?_; clear hK; clear Kn) | (clear hK; clear Kn; with_reducible refine hK _ ?_; clear hK; clear Kn) | (clear hK; clear Kn; clear hK; clear Kn; with_reducible refine hK _ ?_; clear hK; clear Kn) | (refine ⟨_, hid, ?_⟩) | (refine ⟨_, hm1, ?_⟩) | (refine run_agg_neq (b := true) (by kernel_rfl) hKL hKL (by simp) ?_) | (refine ⟨_, hks, ?_⟩) | (refine ⟨_, his, ?_⟩) | (refine ⟨_, hris, ?_⟩) | (refine ⟨_, hsm, ?_⟩) | (refine ⟨_, hrsm, ?_⟩) | (refine ⟨_, ha, ?_⟩) | (refine ⟨_, hsp, ?_⟩) | (refine ⟨_, hks1, ?_⟩) | (refine ⟨_, hks2, ?_⟩) | (refine ⟨_, hks3, ?_⟩) | (refine ⟨_, hks4, ?_⟩) | with_reducible refine ex_bytes ?_ | with_reducible refine loopU_step ?_ | with_reducible refine retO_ret ?_ ?_ | with_reducible refine retO_normal ?_ ?_ | with_reducible refine And.intro (show logOk _ _ = true by kernel_rfl) ?_ | simp (maxSteps := 10000000) (implicitDefEqProofs := false) (disch := omega) only [wrap_id, wrap8, max_r, max_l, min_r, min_l] | (with_reducible refine br_intro (fun hb => ?_) (fun hb => ?_) <;> (try simp only [hb])) | (with_reducible refine And.intro (by first | omega | (simp; done) | (simp; omega)) ?_) | simp (maxSteps := 10000000) (implicitDefEqProofs := false) only [go_sem, Nat.reduceEqDiff, Nat.reduceBEq, ↓reduceIte, Nat.reduceAdd, Nat.reduceMul, Nat.reduceSub, Nat.reduceLeDiff, Nat.reduceLT, reduceCtorEq, Int.reduceLE, Int.reduceLT, Int.reduceToNat, Int.reduceBEq, b1, b2, List.length_map, zeros_R, zeroL_len, htk, htd, hfl, hdz, List.append_nil, int_beqL, hl] | fail))
      | true =>
        have hik : isK s d p = (p.length == 32 && (if s then d == keySum p else d == p)) := by rw [isK, hm]; rfl
        rw [hm] at hI he hm1
        have hI' : idL s d = if s then d else keySum d := hI
        rw [show keyErr s d = 0 from he] at hid
        rw [← hI'] at hri
        generalize idL s d = I at *
        generalize isK s d p = ik at *
        cases hl : p.length == 32 with
        | false =>
          obtain rfl : ik = false := by rw [hik, hl]; rfl
          rw [hl, if_neg (by simp), if_neg (by simp)] at hks
          refine spec_of Tryd.func8 rfl rfl rfl (by kernel_rfl) rfl fun K => ?_
          (repeat' (first | with_reducible refine sound_seq_k fun Kn hK => ?_ | with_reducible refine sound_region (by kernel_rfl) ?_ | with_reducible refine sound_drawn (by kernel_rfl) (by kernel_rfl) ?_ | with_reducible refine sound_block ?_ | with_reducible refine sound_if ?_ | with_reducible refine sound_ret ?_ | with_reducible refine sound_skip ?_ | with_reducible refine sound_exit ?_ | (with_reducible refine hK _ ?_; clear hK; clear Kn) | (clear hK; clear Kn; with_reducible refine hK _ ?_; clear hK; clear Kn) | (clear hK; clear Kn; clear hK; clear Kn; with_reducible refine hK _ ?_; clear hK; clear Kn) | (refine ⟨_, hid, ?_⟩) | (refine ⟨_, hm1, ?_⟩) | (refine ⟨I, ⟨hil, by rw [List.map_map]; rfl⟩, ?_⟩) | (refine ⟨_, hri, ?_⟩) | (refine ⟨_, hks, ?_⟩) | (refine ⟨_, his, ?_⟩) | (refine ⟨_, hris, ?_⟩) | (refine ⟨_, hsm, ?_⟩) | (refine ⟨_, hrsm, ?_⟩) | (refine ⟨_, ha, ?_⟩) | with_reducible refine ex_bytes ?_ | with_reducible refine loopU_step ?_ | with_reducible refine retO_ret ?_ ?_ | with_reducible refine retO_normal ?_ ?_ | with_reducible refine And.intro (show logOk _ _ = true by kernel_rfl) ?_ | simp (maxSteps := 10000000) (implicitDefEqProofs := false) (disch := omega) only [wrap_id, wrap8, max_r, max_l, min_r, min_l] | (with_reducible refine br_intro (fun hb => ?_) (fun hb => ?_) <;> (try simp only [hb])) | (with_reducible refine And.intro (by first | omega | (simp; done) | (simp; omega)) ?_) | simp (maxSteps := 10000000) (implicitDefEqProofs := false) only [go_sem, Nat.reduceEqDiff, Nat.reduceBEq, ↓reduceIte, Nat.reduceAdd, Nat.reduceMul, Nat.reduceSub, Nat.reduceLeDiff, Nat.reduceLT, reduceCtorEq, Int.reduceLE, Int.reduceLT, Int.reduceToNat, Int.reduceBEq, b1, b2, List.length_map, zeros_R, zeroL_len, htk, htd, hfl, hdz, List.append_nil, int_beqL, hl] | fail))
        | true =>
          rw [hl, if_pos rfl, if_pos rfl] at hks
          rw [hl] at hks2 hks3
          refine spec_of Tryd.func8 rfl rfl rfl (by kernel_rfl) rfl fun K => ?_
          (repeat' (first | with_reducible refine sound_seq_k fun Kn hK => ?_ | with_reducible refine sound_region (by kernel_rfl) ?_ | with_reducible refine sound_drawn (by kernel_rfl) (by kernel_rfl) ?_ | with_reducible refine sound_block ?_ | with_reducible refine sound_if ?_ | with_reducible refine sound_ret ?_ | with_reducible refine sound_skip ?_ | with_reducible refine sound_exit ?_ | (with_reducible refine hK _ ?_; clear hK; clear Kn) | (clear hK; clear Kn; with_reducible refine hK _ ?_; clear hK; clear Kn) | (clear hK; clear Kn; clear hK; clear Kn; with_reducible refine hK _ ?_; clear hK; clear Kn) | (refine ⟨_, hid, ?_⟩) | (refine ⟨_, hm1, ?_⟩) | (refine ⟨I, ⟨hil, by rw [List.map_map]; rfl⟩, ?_⟩) | (refine ⟨_, hri, ?_⟩) | (refine ⟨_, hks, ?_⟩) | (refine ⟨_, his, ?_⟩) | (refine ⟨_, hris, ?_⟩) | (refine ⟨_, hsm, ?_⟩) | (refine ⟨_, hrsm, ?_⟩) | (refine ⟨_, ha, ?_⟩) | (refine ⟨_, hsp, ?_⟩) | (refine ⟨_, hks1, ?_⟩) | (refine ⟨_, hks2, ?_⟩) | (refine ⟨_, hks3, ?_⟩) | (refine ⟨_, hks4, ?_⟩) | with_reducible refine ex_bytes ?_ | with_reducible refine loopU_step ?_ | with_reducible refine retO_ret ?_ ?_ | with_reducible refine retO_normal ?_ ?_ | with_reducible refine And.intro (show logOk _ _ = true by kernel_rfl) ?_ | simp (maxSteps := 10000000) (implicitDefEqProofs := false) (disch := omega) only [wrap_id, wrap8, max_r, max_l, min_r, min_l] | (with_reducible refine br_intro (fun hb => ?_) (fun hb => ?_) <;> (try simp only [hb])) | (with_reducible refine And.intro (by first | omega | (simp; done) | (simp; omega)) ?_) | simp (maxSteps := 10000000) (implicitDefEqProofs := false) only [go_sem, Nat.reduceEqDiff, Nat.reduceBEq, ↓reduceIte, Nat.reduceAdd, Nat.reduceMul, Nat.reduceSub, Nat.reduceLeDiff, Nat.reduceLT, reduceCtorEq, Int.reduceLE, Int.reduceLT, Int.reduceToNat, Int.reduceBEq, b1, b2, List.length_map, zeros_R, zeroL_len, htk, htd, hfl, hdz, List.append_nil, int_beqL, hl] | fail))
    · have b2 : decide ((p.length : Int) > 200) = true := by simp; omega
      refine spec_of Tryd.func8 rfl rfl rfl (by kernel_rfl) rfl fun K => ?_
      (repeat' (first | with_reducible refine sound_seq_k fun Kn hK => ?_ | with_reducible refine sound_region (by kernel_rfl) ?_ | with_reducible refine sound_drawn (by kernel_rfl) (by kernel_rfl) ?_ | with_reducible refine sound_block ?_ | with_reducible refine sound_if ?_ | with_reducible refine sound_ret ?_ | with_reducible refine sound_skip ?_ | with_reducible refine sound_exit ?_ | (with_reducible refine hK _ ?_; clear hK; clear Kn) | (clear hK; clear Kn; with_reducible refine hK _ ?_; clear hK; clear Kn) | (clear hK; clear Kn; clear hK; clear Kn; with_reducible refine hK _ ?_; clear hK; clear Kn) | (refine ⟨_, ha, ?_⟩) | with_reducible refine ex_bytes ?_ | with_reducible refine loopU_step ?_ | with_reducible refine retO_ret ?_ ?_ | with_reducible refine retO_normal ?_ ?_ | with_reducible refine And.intro (show logOk _ _ = true by kernel_rfl) ?_ | simp (maxSteps := 10000000) (implicitDefEqProofs := false) (disch := omega) only [wrap_id, wrap8, max_r, max_l, min_r, min_l] | (with_reducible refine br_intro (fun hb => ?_) (fun hb => ?_) <;> (try simp only [hb])) | (with_reducible refine And.intro (by first | omega | (simp; done) | (simp; omega)) ?_) | simp (maxSteps := 10000000) (implicitDefEqProofs := false) only [go_sem, Nat.reduceEqDiff, Nat.reduceBEq, ↓reduceIte, Nat.reduceAdd, Nat.reduceMul, Nat.reduceSub, Nat.reduceLeDiff, Nat.reduceLT, reduceCtorEq, Int.reduceLE, Int.reduceLT, Int.reduceToNat, Int.reduceBEq, b2] | fail))
  · have b1 : decide ((d.length : Int) > 200) = true := by simp; omega
    refine spec_of Tryd.func8 rfl rfl rfl (by kernel_rfl) rfl fun K => ?_
    (repeat' (first | with_reducible refine sound_seq_k fun Kn hK => ?_ | with_reducible refine sound_region (by kernel_rfl) ?_ | with_reducible refine sound_drawn (by kernel_rfl) (by kernel_rfl) ?_ | with_reducible refine sound_block ?_ | with_reducible refine sound_if ?_ | with_reducible refine sound_ret ?_ | with_reducible refine sound_skip ?_ | with_reducible refine sound_exit ?_ | (with_reducible refine hK _ ?_; clear hK; clear Kn) | (clear hK; clear Kn; with_reducible refine hK _ ?_; clear hK; clear Kn) | (clear hK; clear Kn; clear hK; clear Kn; with_reducible refine hK _ ?_; clear hK; clear Kn) | (refine ⟨_, ha, ?_⟩) | with_reducible refine ex_bytes ?_ | with_reducible refine loopU_step ?_ | with_reducible refine retO_ret ?_ ?_ | with_reducible refine retO_normal ?_ ?_ | with_reducible refine And.intro (show logOk _ _ = true by kernel_rfl) ?_ | simp (maxSteps := 10000000) (implicitDefEqProofs := false) (disch := omega) only [wrap_id, wrap8, max_r, max_l, min_r, min_l] | (with_reducible refine br_intro (fun hb => ?_) (fun hb => ?_) <;> (try simp only [hb])) | (with_reducible refine And.intro (by first | omega | (simp; done) | (simp; omega)) ?_) | simp (maxSteps := 10000000) (implicitDefEqProofs := false) only [go_sem, Nat.reduceEqDiff, Nat.reduceBEq, ↓reduceIte, Nat.reduceAdd, Nat.reduceMul, Nat.reduceSub, Nat.reduceLeDiff, Nat.reduceLT, reduceCtorEq, Int.reduceLE, Int.reduceLT, Int.reduceToNat, Int.reduceBEq, b1] | fail))
end Go.Proofs.YtdakeodebgggfaaDoor

/- Two principals, and their values. -/
namespace Go.Proofs.YtdakeodebgggfaaDoor
open Go.RowKit
set_option linter.unusedVariables false
set_option linter.unusedSimpArgs false
set_option maxRecDepth 100000
set_option maxHeartbeats 4000000
theorem keyV_inj {s s' : Bool} {d d' : List UInt8} (h : keyV s d = keyV s' d') : s = s' ∧ d = d' := by
  cases s <;> cases s' <;> simp [keyV, listT, atomT] at h <;> simp [h]
theorem keyV_same (s s' : Bool) (d d' : List UInt8) : (keyV s d).same (keyV s' d') = (s == s' && d == d') := by
  cases hb : (s == s' && d == d') with
  | true =>
    simp only [Bool.and_eq_true, beq_iff_eq] at hb
    rw [hb.1, hb.2]
    exact same_t rfl
  | false =>
    refine same_f fun h => ?_
    obtain ⟨h1, h2⟩ := keyV_inj h
    rw [h1, h2] at hb
    simp at hb
theorem keyone_m {G : Nat → Option (List D)} (hG : G 0 = some powD) (k k' : Bool × List UInt8) (hk : k.2.length ≤ 2000000) (hk' : k'.2.length ≤ 2000000) :
    Spec Tryd.prog G 7 [.g (keyC k.1 k.2), .g (keyC k'.1 k'.2)] (.one (.c (.v (.bool true)))) := by
  obtain ⟨s, d⟩ := k
  obtain ⟨s', d'⟩ := k'
  dsimp only at hk hk' ⊢
  have ha := awake14_m (G := G) hG
  by_cases hd2 : d.length ≤ 200
  · by_cases hd2' : d'.length ≤ 200
    · have b1 : decide ((d.length : Int) > 200) = false := by simp; omega
      have b2 : decide ((d'.length : Int) > 200) = false := by simp; omega
      have hp := kput_m (G := G) s d (by omega)
      have hp' := kput_m (G := G) s' d' (by omega)
      have hm1 := rkmay_m (G := G) s d
      have hid := kid14_m (G := G) hG s d (by omega)
      have hil := idL_len s d
      have hks := ksum_m (G := G) hG d (by omega)
      have hkl := keySum_len d
      have hsr := sameref_m (G := G) (keyV s d) (keyV s' d') _ _ rfl rfl (by have := keyV_wt (s := s) (d := d); omega)
      have hsm := ksame_m (G := G) s s' d d'
      rw [keyV_same] at hsr
      have hI : idL s d = if keyMay s d then (if s then d else keySum d) else zeroL 64 := rfl
      have e1 : keyErr s d = if keyMay s d then 0 else 7 := rfl
      have e2 : keyErr s' d' = if keyMay s' d' then 0 else 7 := rfl
      have o1 : keyOut s d = if keyMay s d then keyV s d else zeroT := rfl
      have o2 : keyOut s' d' = if keyMay s' d' then keyV s' d' else zeroT := rfl
      have hfl : (((idL s d).map bD).map C.d).length = 64 := by rw [List.length_map, List.length_map, hil]
      have htk : (((idL s d).map bD).map C.d).take 64 = ((idL s d).map bD).map C.d := List.take_of_length_le (by omega)
      have htd : ((idL s d).map bD).take 64 = (idL s d).map bD := List.take_of_length_le (by rw [List.length_map]; omega)
      have hdz : (((zeroL 64).map bD).map C.d).drop 64 = [] := by simp [zeroL]
      cases hm : keyMay s d with
      | false =>
        rw [hm] at e1 hm1
        rw [show keyErr s d = 7 from e1] at hp
        generalize keyOut s d = O at *
        generalize keyOut s' d' = O' at *
        generalize keyErr s' d' = E' at *
        refine spec_of Tryd.func7 rfl rfl rfl (by kernel_rfl) rfl fun K => ?_
        (repeat' (first | with_reducible refine sound_seq_k fun Kn hK => ?_ | with_reducible refine sound_region (by kernel_rfl) ?_ | with_reducible refine sound_drawn (by kernel_rfl) (by kernel_rfl) ?_ | with_reducible refine sound_block ?_ | with_reducible refine sound_if ?_ | with_reducible refine sound_ret ?_ | with_reducible refine sound_skip ?_ | with_reducible refine sound_exit ?_ | (with_reducible refine hK _ ?_; clear hK; clear Kn) | (clear hK; clear Kn; with_reducible refine hK _ ?_; clear hK; clear Kn) | (clear hK; clear Kn; clear hK; clear Kn; with_reducible refine hK _ ?_; clear hK; clear Kn) | (refine ⟨_, hp, ?_⟩) | (refine ⟨_, hp', ?_⟩) | (refine ⟨_, hm1, ?_⟩) | (refine ⟨_, ha, ?_⟩) | with_reducible refine ex_bytes ?_ | with_reducible refine loopU_step ?_ | with_reducible refine retO_ret ?_ ?_ | with_reducible refine retO_normal ?_ ?_ | with_reducible refine And.intro (show logOk _ _ = true by kernel_rfl) ?_ | simp (maxSteps := 10000000) (implicitDefEqProofs := false) (disch := omega) only [wrap_id, wrap8, max_r, max_l, min_r, min_l] | (with_reducible refine br_intro (fun hb => ?_) (fun hb => ?_) <;> (try simp only [hb])) | (with_reducible refine And.intro (by first | omega | (simp; done) | (simp; omega)) ?_) | simp (maxSteps := 10000000) (implicitDefEqProofs := false) only [go_sem, Nat.reduceEqDiff, Nat.reduceBEq, ↓reduceIte, Nat.reduceAdd, Nat.reduceMul, Nat.reduceSub, Nat.reduceLeDiff, Nat.reduceLT, reduceCtorEq, Int.reduceLE, Int.reduceLT, Int.reduceToNat, Int.reduceBEq, b1, b2, List.length_map] | fail))
      | true =>
        rw [hm] at e1 o1 hm1 hI
        rw [show keyErr s d = 0 from e1, show keyOut s d = keyV s d from o1] at hp
        rw [show keyErr s d = 0 from e1] at hid
        cases hm' : keyMay s' d' with
        | false =>
          rw [hm'] at e2
          rw [show keyErr s' d' = 7 from e2] at hp'
          generalize keyOut s' d' = O' at *
          generalize keyV s d = O at *
          refine spec_of Tryd.func7 rfl rfl rfl (by kernel_rfl) rfl fun K => ?_
          (repeat' (first | with_reducible refine sound_seq_k fun Kn hK => ?_ | with_reducible refine sound_region (by kernel_rfl) ?_ | with_reducible refine sound_drawn (by kernel_rfl) (by kernel_rfl) ?_ | with_reducible refine sound_block ?_ | with_reducible refine sound_if ?_ | with_reducible refine sound_ret ?_ | with_reducible refine sound_skip ?_ | with_reducible refine sound_exit ?_ | (with_reducible refine hK _ ?_; clear hK; clear Kn) | (clear hK; clear Kn; with_reducible refine hK _ ?_; clear hK; clear Kn) | (clear hK; clear Kn; clear hK; clear Kn; with_reducible refine hK _ ?_; clear hK; clear Kn) | (refine ⟨_, hp, ?_⟩) | (refine ⟨_, hp', ?_⟩) | (refine ⟨_, hm1, ?_⟩) | (refine ⟨_, ha, ?_⟩) | with_reducible refine ex_bytes ?_ | with_reducible refine loopU_step ?_ | with_reducible refine retO_ret ?_ ?_ | with_reducible refine retO_normal ?_ ?_ | with_reducible refine And.intro (show logOk _ _ = true by kernel_rfl) ?_ | simp (maxSteps := 10000000) (implicitDefEqProofs := false) (disch := omega) only [wrap_id, wrap8, max_r, max_l, min_r, min_l] | (with_reducible refine br_intro (fun hb => ?_) (fun hb => ?_) <;> (try simp only [hb])) | (with_reducible refine And.intro (by first | omega | (simp; done) | (simp; omega)) ?_) | simp (maxSteps := 10000000) (implicitDefEqProofs := false) only [go_sem, Nat.reduceEqDiff, Nat.reduceBEq, ↓reduceIte, Nat.reduceAdd, Nat.reduceMul, Nat.reduceSub, Nat.reduceLeDiff, Nat.reduceLT, reduceCtorEq, Int.reduceLE, Int.reduceLT, Int.reduceToNat, Int.reduceBEq, b1, b2, List.length_map] | fail))
        | true =>
          rw [hm'] at e2 o2
          rw [show keyErr s' d' = 0 from e2, show keyOut s' d' = keyV s' d' from o2] at hp'
          generalize keyV s d = O at *
          generalize keyV s' d' = O' at *
          generalize (s == s' && d == d') = b at *
          cases s with
          | true =>
            have hI' : idL true d = d := hI
            have hl : (d.length == 32) = false := by
              have : d.length = 64 := by simpa [keyMay] using hm
              simp [this]
            rw [hl, if_neg (by simp), if_neg (by simp)] at hks
            generalize idL true d = I at *
            refine spec_of Tryd.func7 rfl rfl rfl (by kernel_rfl) rfl fun K => ?_
            (repeat' (first | with_reducible refine sound_seq_k fun Kn hK => ?_ | with_reducible refine sound_region (by kernel_rfl) ?_ | with_reducible refine sound_drawn (by kernel_rfl) (by kernel_rfl) ?_ | with_reducible refine sound_block ?_ | with_reducible refine sound_if ?_ | with_reducible refine sound_ret ?_ | with_reducible refine sound_skip ?_ | with_reducible refine sound_exit ?_ | (with_reducible refine hK _ ?_; clear hK; clear Kn) | (clear hK; clear Kn; with_reducible refine hK _ ?_; clear hK; clear Kn) | (clear hK; clear Kn; clear hK; clear Kn; with_reducible refine hK _ ?_; clear hK; clear Kn) | (refine ⟨_, hp, ?_⟩) | (refine ⟨_, hp', ?_⟩) | (refine ⟨_, hm1, ?_⟩) | (refine ⟨_, ha, ?_⟩) | (refine ⟨_, hid, ?_⟩) | (refine ⟨_, hks, ?_⟩) | (refine ⟨_, hsr, ?_⟩) | (refine ⟨_, hsm, ?_⟩) | with_reducible refine ex_bytes ?_ | with_reducible refine loopU_step ?_ | with_reducible refine retO_ret ?_ ?_ | with_reducible refine retO_normal ?_ ?_ | with_reducible refine And.intro (show logOk _ _ = true by kernel_rfl) ?_ | simp (maxSteps := 10000000) (implicitDefEqProofs := false) (disch := omega) only [wrap_id, wrap8, max_r, max_l, min_r, min_l] | (with_reducible refine br_intro (fun hb => ?_) (fun hb => ?_) <;> (try simp only [hb])) | (with_reducible refine And.intro (by first | omega | (simp; done) | (simp; omega)) ?_) | simp (maxSteps := 10000000) (implicitDefEqProofs := false) only [go_sem, Nat.reduceEqDiff, Nat.reduceBEq, ↓reduceIte, Nat.reduceAdd, Nat.reduceMul, Nat.reduceSub, Nat.reduceLeDiff, Nat.reduceLT, reduceCtorEq, Int.reduceLE, Int.reduceLT, Int.reduceToNat, Int.reduceBEq, b1, b2, htk, hfl, htd, hdz, zeros_R, zeroL_len, hil, List.append_nil, List.length_map] | fail))
          | false =>
            have hI' : idL false d = keySum d := hI
            have hl : (d.length == 32) = true := by
              have : d.length = 32 := by simpa [keyMay] using hm
              simp [this]
            rw [hl, if_pos rfl, if_pos rfl, ← hI'] at hks
            generalize idL false d = I at *
            refine spec_of Tryd.func7 rfl rfl rfl (by kernel_rfl) rfl fun K => ?_
            (repeat' (first | with_reducible refine sound_seq_k fun Kn hK => ?_ | with_reducible refine sound_region (by kernel_rfl) ?_ | with_reducible refine sound_drawn (by kernel_rfl) (by kernel_rfl) ?_ | with_reducible refine sound_block ?_ | with_reducible refine sound_if ?_ | with_reducible refine sound_ret ?_ | with_reducible refine sound_skip ?_ | with_reducible refine sound_exit ?_ | (with_reducible refine hK _ ?_; clear hK; clear Kn) | (clear hK; clear Kn; with_reducible refine hK _ ?_; clear hK; clear Kn) | (clear hK; clear Kn; clear hK; clear Kn; with_reducible refine hK _ ?_; clear hK; clear Kn) | (refine ⟨_, hp, ?_⟩) | (refine ⟨_, hp', ?_⟩) | (refine ⟨_, hm1, ?_⟩) | (refine ⟨_, ha, ?_⟩) | (refine ⟨_, hid, ?_⟩) | (refine ⟨_, hks, ?_⟩) | (refine ⟨I, ⟨hil, by rw [List.map_map]; rfl⟩, ?_⟩) | (refine ⟨I, ⟨hil, rfl⟩, ?_⟩) | (refine ⟨_, hsr, ?_⟩) | (refine ⟨_, hsm, ?_⟩) | with_reducible refine ex_bytes ?_ | with_reducible refine loopU_step ?_ | with_reducible refine retO_ret ?_ ?_ | with_reducible refine retO_normal ?_ ?_ | with_reducible refine And.intro (show logOk _ _ = true by kernel_rfl) ?_ | simp (maxSteps := 10000000) (implicitDefEqProofs := false) (disch := omega) only [wrap_id, wrap8, max_r, max_l, min_r, min_l] | (with_reducible refine br_intro (fun hb => ?_) (fun hb => ?_) <;> (try simp only [hb])) | (with_reducible refine And.intro (by first | omega | (simp; done) | (simp; omega)) ?_) | simp (maxSteps := 10000000) (implicitDefEqProofs := false) only [go_sem, Nat.reduceEqDiff, Nat.reduceBEq, ↓reduceIte, Nat.reduceAdd, Nat.reduceMul, Nat.reduceSub, Nat.reduceLeDiff, Nat.reduceLT, reduceCtorEq, Int.reduceLE, Int.reduceLT, Int.reduceToNat, Int.reduceBEq, b1, b2, htk, hfl, htd, hdz, zeros_R, zeroL_len, hil, List.append_nil, List.length_map] | fail))
    · have b2 : decide ((d'.length : Int) > 200) = true := by simp; omega
      refine spec_of Tryd.func7 rfl rfl rfl (by kernel_rfl) rfl fun K => ?_
      (repeat' (first | with_reducible refine sound_seq_k fun Kn hK => ?_ | with_reducible refine sound_region (by kernel_rfl) ?_ | with_reducible refine sound_drawn (by kernel_rfl) (by kernel_rfl) ?_ | with_reducible refine sound_block ?_ | with_reducible refine sound_if ?_ | with_reducible refine sound_ret ?_ | with_reducible refine sound_skip ?_ | with_reducible refine sound_exit ?_ | (with_reducible refine hK _ ?_; clear hK; clear Kn) | (clear hK; clear Kn; with_reducible refine hK _ ?_; clear hK; clear Kn) | (clear hK; clear Kn; clear hK; clear Kn; with_reducible refine hK _ ?_; clear hK; clear Kn) | (refine ⟨_, ha, ?_⟩) | with_reducible refine ex_bytes ?_ | with_reducible refine loopU_step ?_ | with_reducible refine retO_ret ?_ ?_ | with_reducible refine retO_normal ?_ ?_ | with_reducible refine And.intro (show logOk _ _ = true by kernel_rfl) ?_ | simp (maxSteps := 10000000) (implicitDefEqProofs := false) (disch := omega) only [wrap_id, wrap8, max_r, max_l, min_r, min_l] | (with_reducible refine br_intro (fun hb => ?_) (fun hb => ?_) <;> (try simp only [hb])) | (with_reducible refine And.intro (by first | omega | (simp; done) | (simp; omega)) ?_) | simp (maxSteps := 10000000) (implicitDefEqProofs := false) only [go_sem, Nat.reduceEqDiff, Nat.reduceBEq, ↓reduceIte, Nat.reduceAdd, Nat.reduceMul, Nat.reduceSub, Nat.reduceLeDiff, Nat.reduceLT, reduceCtorEq, Int.reduceLE, Int.reduceLT, Int.reduceToNat, Int.reduceBEq, b2] | fail))
  · have b1 : decide ((d.length : Int) > 200) = true := by simp; omega
    refine spec_of Tryd.func7 rfl rfl rfl (by kernel_rfl) rfl fun K => ?_
    (repeat' (first | with_reducible refine sound_seq_k fun Kn hK => ?_ | with_reducible refine sound_region (by kernel_rfl) ?_ | with_reducible refine sound_drawn (by kernel_rfl) (by kernel_rfl) ?_ | with_reducible refine sound_block ?_ | with_reducible refine sound_if ?_ | with_reducible refine sound_ret ?_ | with_reducible refine sound_skip ?_ | with_reducible refine sound_exit ?_ | (with_reducible refine hK _ ?_; clear hK; clear Kn) | (clear hK; clear Kn; with_reducible refine hK _ ?_; clear hK; clear Kn) | (clear hK; clear Kn; clear hK; clear Kn; with_reducible refine hK _ ?_; clear hK; clear Kn) | (refine ⟨_, ha, ?_⟩) | with_reducible refine ex_bytes ?_ | with_reducible refine loopU_step ?_ | with_reducible refine retO_ret ?_ ?_ | with_reducible refine retO_normal ?_ ?_ | with_reducible refine And.intro (show logOk _ _ = true by kernel_rfl) ?_ | simp (maxSteps := 10000000) (implicitDefEqProofs := false) (disch := omega) only [wrap_id, wrap8, max_r, max_l, min_r, min_l] | (with_reducible refine br_intro (fun hb => ?_) (fun hb => ?_) <;> (try simp only [hb])) | (with_reducible refine And.intro (by first | omega | (simp; done) | (simp; omega)) ?_) | simp (maxSteps := 10000000) (implicitDefEqProofs := false) only [go_sem, Nat.reduceEqDiff, Nat.reduceBEq, ↓reduceIte, Nat.reduceAdd, Nat.reduceMul, Nat.reduceSub, Nat.reduceLeDiff, Nat.reduceLT, reduceCtorEq, Int.reduceLE, Int.reduceLT, Int.reduceToNat, Int.reduceBEq, b1] | fail))
end Go.Proofs.YtdakeodebgggfaaDoor
