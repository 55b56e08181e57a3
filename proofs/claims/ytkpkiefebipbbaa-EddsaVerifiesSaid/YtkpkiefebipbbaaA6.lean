/- Parts of the proof, laid together. -/
import Derived.Test.YtkpkiefebipbbaaA5
set_option linter.unusedVariables false
set_option linter.unusedSimpArgs false
set_option maxRecDepth 100000
set_option maxHeartbeats 8000000
/- A product and a sum: the walk. -/
namespace Go.Proofs.Ytkpkiefebipbbaa
open Go.RowKit
theorem bytesC_get {l : List UInt8} {k : Nat} {x : UInt8} (h : l[k]? = some x) : ((l.map bD).map C.d)[k]? = some (C.d (D.v (.int .u8 (x.toNat : Int)))) := by
  rw [List.getElem?_map, List.getElem?_map, h]
  rfl
end Go.Proofs.Ytkpkiefebipbbaa
/- A product and a sum by digits: the walk. -/
namespace Go.Proofs.Ytkpkiefebipbbaa
open Go.RowKit
end Go.Proofs.Ytkpkiefebipbbaa
/- Points by digits: the curve's number, the point that changes nothing. -/
namespace Go.Proofs.Ytkpkiefebipbbaa
open Go.RowKit
section
variable {G : Nat → Option (List D)}
theorem refD_w {a b c e f : F} (h1 : Spec Try.prog G 52 [.c (.v (.int .u64 121665))] (.one (.g ((refC a).map nD))))
    (h2 : Spec Try.prog G 51 [.g ((refC a).map nD)] (.one (.g ((refC b).map nD))))
    (h3 : Spec Try.prog G 52 [.c (.v (.int .u64 121666))] (.one (.g ((refC c).map nD))))
    (h4 : Spec Try.prog G 56 [.g ((refC c).map nD)] (.one (.g ((refC e).map nD))))
    (h5 : Spec Try.prog G 55 [.g ((refC b).map nD), .g ((refC e).map nD)] (.one (.g ((refC f).map nD)))) :
    Spec Try.prog G 57 [] (.one (.g ((refC f).map nD))) := by
  have hlen := refC_len
  have c1 := fun (y : F) => (cd_facts (l := (refC y).map nD) (n := 16) (by rw [List.length_map]; exact hlen y)).1
  have c2 := fun (y : F) => (cd_facts (l := (refC y).map nD) (n := 16) (by rw [List.length_map]; exact hlen y)).2.1
  have c3 := fun (y : F) => (cd_facts (l := (refC y).map nD) (n := 16) (by rw [List.length_map]; exact hlen y)).2.2
  refine spec_of Try.func57 rfl rfl rfl (by kernel_rfl) rfl fun K => ?_
  (repeat' (first | with_reducible (first | refine zA fun Kn hK => ?_ | refine zB (by kernel_rfl) ?_ | refine zC (by kernel_rfl) (by kernel_rfl) ?_ | refine zD ?_ | refine zN ?_ | refine zF ?_ | refine zG ?_ | refine zH ?_ | (refine hK _ ?_; clear hK Kn) | (clear hK Kn; refine hK _ ?_; clear hK Kn) | (clear hK Kn; clear hK Kn; refine hK _ ?_; clear hK Kn)) | (refine ⟨_, h1, ?_⟩) | (refine ⟨_, h2, ?_⟩) | (refine ⟨_, h3, ?_⟩) | (refine ⟨_, h4, ?_⟩) | (refine ⟨_, h5, ?_⟩) | with_reducible (first | refine zI ?_ | refine zJ ?_ | refine zK ?_ ?_ | refine zL ?_ ?_ | refine And.intro (show logOk _ _ = true by kernel_rfl) ?_) | simp (maxSteps := 10000000) (disch := omega) only [wrap_id, wrap8, max_r, max_l, min_r, min_l] | (with_reducible refine zM (fun hb => ?_) (fun hb => ?_) <;> (try simp only [hb])) | (with_reducible refine And.intro (by first | omega | (simp; done) | (simp; omega)) ?_) | simp (maxSteps := 10000000) (implicitDefEqProofs := false) only [go_sem, Nat.reduceEqDiff, Nat.reduceBEq, ↓reduceIte, Nat.reduceAdd, Nat.reduceMul, Nat.reduceSub, Nat.reduceLeDiff, Nat.reduceLT, reduceCtorEq, Int.reduceLE, Int.reduceLT, Int.reduceToNat, Int.reduceBEq, c1, c2, c3, hlen, List.length_map, List.length_replicate, List.drop_replicate, List.append_nil] | fail))
theorem refD_m : Spec Try.prog G 57 [] (.one (.g ((refC dF).map nD))) := by
  have hm := refmul_m (G := G) (-(toF 121665)) (finv (toF 121666))
  rw [← negF, dF_is] at hm
  have hn := refneg_m (G := G) (toF 121665)
  rw [← negF] at hn
  exact refD_w (refof_m 121665 (by omega)) hn (refof_m 121666 (by omega)) (refinv_m _) hm
end
end Go.Proofs.Ytkpkiefebipbbaa
/- Points by digits: three elements behind each other. -/
namespace Go.Proofs.Ytkpkiefebipbbaa
open Go.RowKit
def rD1 (x : F) : List D := (refC x).map nD
theorem rD1_len (x : F) : (rD1 x).length = 16 := by rw [rD1, List.length_map, refC_len]
def rC1 (x : F) : List C := (rD1 x).map C.d
theorem rC1_len (x : F) : (rC1 x).length = 16 := by rw [rC1, List.length_map, rD1_len]
section
variable {α : Type} {A B : List α}
theorem tk16 (h : A.length = 16) : (A ++ B).take 16 = A := List.take_left' h
theorem dp16 (h : A.length = 16) : (A ++ B).drop 16 = B := List.drop_left' h
theorem tk32 (h : A.length = 16) : (A ++ B).take 32 = A ++ B.take 16 := by rw [List.take_append, h, List.take_of_length_le (by omega)]
theorem tk48 (h : A.length = 16) : (A ++ B).take 48 = A ++ B.take 32 := by rw [List.take_append, h, List.take_of_length_le (by omega)]
theorem dp32 (h : A.length = 16) : (A ++ B).drop 32 = B.drop 16 := by rw [List.drop_append, h, List.drop_of_length_le (by omega)]; rfl
theorem dp48 (h : A.length = 16) : (A ++ B).drop 48 = B.drop 32 := by rw [List.drop_append, h, List.drop_of_length_le (by omega)]; rfl
end
/-- A point's cells. -/
def p3D (x y z : F) : List D := rD1 x ++ (rD1 y ++ rD1 z)
theorem p3D_len (x y z : F) : (p3D x y z).length = 48 := by simp [p3D, rD1_len]
theorem rep48 : List.replicate 48 (C.d (.v (.int .u64 0))) = rC1 0 ++ (rC1 0 ++ rC1 0) := by
  have h : rC1 0 = List.replicate 16 (C.d (.v (.int .u64 0))) := by rw [rC1, rD1, refC_zero]; rfl
  rw [h]
  rfl
end Go.Proofs.Ytkpkiefebipbbaa
/- Points by digits: the one that changes nothing; sums. -/
namespace Go.Proofs.Ytkpkiefebipbbaa
open Go.RowKit
section
variable {G : Nat → Option (List D)}
theorem rzero_m : Spec Try.prog G 58 [] (.one (.g (p3D 0 1 1))) := by
  have h1 : Spec Try.prog G 52 [.c (.v (.int .u64 1))] (.one (.g (rD1 1))) := refof_m 1 (by omega)
  have l1 := rD1_len
  have l2 := rC1_len
  have e1 : ∀ x, (rD1 x).map C.d = rC1 x := fun _ => rfl
  have t1 := fun (x : F) (B : List C) => tk16 (B := B) (rC1_len x)
  have t2 := fun (x : F) (B : List C) => tk32 (B := B) (rC1_len x)
  have t3 := fun (x : F) (B : List C) => tk48 (B := B) (rC1_len x)
  have d1 := fun (x : F) (B : List C) => dp16 (B := B) (rC1_len x)
  have d2 := fun (x : F) (B : List C) => dp32 (B := B) (rC1_len x)
  have d3 := fun (x : F) (B : List C) => dp48 (B := B) (rC1_len x)
  have s1 := fun (x : F) => (cd_facts (rD1_len x)).1
  have s2 := fun (x : F) => (cd_facts (rD1_len x)).2.1
  have s3 := fun (x : F) => (cd_facts (rD1_len x)).2.2
  simp only [e1] at s2 s3
  have dn : ∀ x, dOnly (rC1 x) = some (rD1 x) := fun x => by simp only [rC1, go_sem]
  refine spec_of Try.func58 rfl rfl rfl (by kernel_rfl) rfl fun K => ?_
  (repeat' (first | with_reducible (first | refine zA fun Kn hK => ?_ | refine zB (by kernel_rfl) ?_ | refine zC (by kernel_rfl) (by kernel_rfl) ?_ | refine zD ?_ | refine zN ?_ | refine zF ?_ | refine zG ?_ | refine zH ?_ | (refine hK _ ?_; clear hK Kn) | (clear hK Kn; refine hK _ ?_; clear hK Kn) | (clear hK Kn; clear hK Kn; refine hK _ ?_; clear hK Kn)) | (refine ⟨_, h1, ?_⟩) | with_reducible (first | refine zI ?_ | refine zJ ?_ | refine zK ?_ ?_ | refine zL ?_ ?_ | refine And.intro (show logOk _ _ = true by kernel_rfl) ?_) | simp (maxSteps := 10000000) (disch := omega) only [wrap_id, wrap8, max_r, max_l, min_r, min_l] | (with_reducible refine zM (fun hb => ?_) (fun hb => ?_) <;> (try simp only [hb])) | (with_reducible refine And.intro (by first | omega | (simp; done) | (simp; omega)) ?_) | simp (maxSteps := 10000000) (implicitDefEqProofs := false) only [go_sem, Nat.reduceEqDiff, Nat.reduceBEq, ↓reduceIte, Nat.reduceAdd, Nat.reduceMul, Nat.reduceSub, Nat.reduceLeDiff, Nat.reduceLT, reduceCtorEq, Int.reduceLE, Int.reduceLT, Int.reduceToNat, Int.reduceBEq, rep48, dn, p3D, Option.bind_some, Option.map_some, e1, l1, l2, t1, t2, t3, d1, d2, d3, s1, s2, s3, List.length_append, List.append_assoc, List.append_nil] | fail))
end
end Go.Proofs.Ytkpkiefebipbbaa
/- Points by digits: the one that changes nothing; sums. -/
namespace Go.Proofs.Ytkpkiefebipbbaa
open Go.RowKit
section
variable {G : Nat → Option (List D)}
def rX (x1 y1 z1 x2 y2 z2 k : F) : F := z1 * z2 * (z1 * z2 * (z1 * z2) - k * (x1 * x2) * (y1 * y2)) * ((x1 + y1) * (x2 + y2) - x1 * x2 - y1 * y2)
def rY (x1 y1 z1 x2 y2 z2 k : F) : F := z1 * z2 * (z1 * z2 * (z1 * z2) + k * (x1 * x2) * (y1 * y2)) * (y1 * y2 + x1 * x2)
def rZ (x1 y1 z1 x2 y2 z2 k : F) : F := (z1 * z2 * (z1 * z2) - k * (x1 * x2) * (y1 * y2)) * (z1 * z2 * (z1 * z2) + k * (x1 * x2) * (y1 * y2))
theorem radd_m (x1 y1 z1 x2 y2 z2 k : F) : Spec Try.prog G 59 [.g (p3D x1 y1 z1), .g (p3D x2 y2 z2), .g (rD1 k)] (.one (.g (p3D (rX x1 y1 z1 x2 y2 z2 k) (rY x1 y1 z1 x2 y2 z2 k) (rZ x1 y1 z1 x2 y2 z2 k)))) := by
  have hm : ∀ x y : F, Spec Try.prog G 55 [.g (rD1 x), .g (rD1 y)] (.one (.g (rD1 (x * y)))) := fun x y => refmul_m x y
  have ha : ∀ x y : F, Spec Try.prog G 77 [.g (rD1 x), .g (rD1 y)] (.one (.g (rD1 (x + y)))) := fun x y => refadd_m x y
  have hs : ∀ x y : F, Spec Try.prog G 78 [.g (rD1 x), .g (rD1 y)] (.one (.g (rD1 (x - y)))) := fun x y => refsub_m x y
  have l1 := rD1_len
  have l2 := rC1_len
  have e1 : ∀ x, (rD1 x).map C.d = rC1 x := fun _ => rfl
  have t1 := fun (x : F) (B : List C) => tk16 (B := B) (rC1_len x)
  have t2 := fun (x : F) (B : List C) => tk32 (B := B) (rC1_len x)
  have t3 := fun (x : F) (B : List C) => tk48 (B := B) (rC1_len x)
  have d1 := fun (x : F) (B : List C) => dp16 (B := B) (rC1_len x)
  have d2 := fun (x : F) (B : List C) => dp32 (B := B) (rC1_len x)
  have d3 := fun (x : F) (B : List C) => dp48 (B := B) (rC1_len x)
  have s1 := fun (x : F) => (cd_facts (rD1_len x)).1
  have s2 := fun (x : F) => (cd_facts (rD1_len x)).2.1
  have s3 := fun (x : F) => (cd_facts (rD1_len x)).2.2
  simp only [e1] at s2 s3
  have dn : ∀ x, dOnly (rC1 x) = some (rD1 x) := fun x => by simp only [rC1, go_sem]
  have r16 : List.replicate 16 (C.d (.v (.int .u64 0))) = rC1 0 := by rw [rC1, rD1, refC_zero]; rfl
  unfold p3D
  refine spec_of Try.func59 rfl rfl rfl (by kernel_rfl) rfl fun K => ?_
  (repeat' (first | with_reducible (first | refine zA fun Kn hK => ?_ | refine zB (by kernel_rfl) ?_ | refine zC (by kernel_rfl) (by kernel_rfl) ?_ | refine zD ?_ | refine zN ?_ | refine zF ?_ | refine zG ?_ | refine zH ?_ | (refine hK _ ?_; clear hK Kn) | (clear hK Kn; refine hK _ ?_; clear hK Kn) | (clear hK Kn; clear hK Kn; refine hK _ ?_; clear hK Kn)) | (refine ⟨_, hm _ _, ?_⟩) | (refine ⟨_, ha _ _, ?_⟩) | (refine ⟨_, hs _ _, ?_⟩) | with_reducible (first | refine zI ?_ | refine zJ ?_ | refine zK ?_ ?_ | refine zL ?_ ?_ | refine And.intro (show logOk _ _ = true by kernel_rfl) ?_) | simp (maxSteps := 10000000) (disch := omega) only [wrap_id, wrap8, max_r, max_l, min_r, min_l] | (with_reducible refine zM (fun hb => ?_) (fun hb => ?_) <;> (try simp only [hb])) | (with_reducible refine And.intro (by first | omega | (simp; done) | (simp; omega)) ?_) | simp (maxSteps := 10000000) (implicitDefEqProofs := false) only [go_sem, Nat.reduceEqDiff, Nat.reduceBEq, ↓reduceIte, Nat.reduceAdd, Nat.reduceMul, Nat.reduceSub, Nat.reduceLeDiff, Nat.reduceLT, reduceCtorEq, Int.reduceLE, Int.reduceLT, Int.reduceToNat, Int.reduceBEq, rep48, r16, dn, Option.bind_some, Option.map_some, e1, l1, l2, t1, t2, t3, d1, d2, d3, s1, s2, s3, List.map_append, List.length_append, List.append_assoc, List.append_nil] | fail))
  all_goals rfl
end
end Go.Proofs.Ytkpkiefebipbbaa
/- Points by digits: sums, roots. -/
namespace Go.Proofs.Ytkpkiefebipbbaa
open Go.RowKit
section
variable {G : Nat → Option (List D)}
theorem rAdd_m (x1 y1 z1 x2 y2 z2 : F) : Spec Try.prog G 25 [.g (p3D x1 y1 z1), .g (p3D x2 y2 z2)] (.one (.g (p3D (rX x1 y1 z1 x2 y2 z2 dF) (rY x1 y1 z1 x2 y2 z2 dF) (rZ x1 y1 z1 x2 y2 z2 dF)))) := by
  have hd : Spec Try.prog G 57 [] (.one (.g (rD1 dF))) := refD_m
  have ha := radd_m (G := G) x1 y1 z1 x2 y2 z2 dF
  generalize rX x1 y1 z1 x2 y2 z2 dF = X at *
  generalize rY x1 y1 z1 x2 y2 z2 dF = Y at *
  generalize rZ x1 y1 z1 x2 y2 z2 dF = Z at *
  have l1 := rD1_len
  have l2 := rC1_len
  have e1 : ∀ x, (rD1 x).map C.d = rC1 x := fun _ => rfl
  have t1 := fun (x : F) (B : List C) => tk16 (B := B) (rC1_len x)
  have t2 := fun (x : F) (B : List C) => tk32 (B := B) (rC1_len x)
  have t3 := fun (x : F) (B : List C) => tk48 (B := B) (rC1_len x)
  have d1 := fun (x : F) (B : List C) => dp16 (B := B) (rC1_len x)
  have d2 := fun (x : F) (B : List C) => dp32 (B := B) (rC1_len x)
  have d3 := fun (x : F) (B : List C) => dp48 (B := B) (rC1_len x)
  have s1 := fun (x : F) => (cd_facts (rD1_len x)).1
  have s2 := fun (x : F) => (cd_facts (rD1_len x)).2.1
  have s3 := fun (x : F) => (cd_facts (rD1_len x)).2.2
  simp only [e1] at s2 s3
  have dn : ∀ x, dOnly (rC1 x) = some (rD1 x) := fun x => by simp only [rC1, go_sem]
  unfold p3D at ha ⊢
  refine spec_of Try.func25 rfl rfl rfl (by kernel_rfl) rfl fun K => ?_
  (repeat' (first | with_reducible (first | refine zA fun Kn hK => ?_ | refine zB (by kernel_rfl) ?_ | refine zC (by kernel_rfl) (by kernel_rfl) ?_ | refine zD ?_ | refine zN ?_ | refine zF ?_ | refine zG ?_ | refine zH ?_ | (refine hK _ ?_; clear hK Kn) | (clear hK Kn; refine hK _ ?_; clear hK Kn) | (clear hK Kn; clear hK Kn; refine hK _ ?_; clear hK Kn)) | (refine ⟨_, hd, ?_⟩) | (refine ⟨_, ha, ?_⟩) | with_reducible (first | refine zI ?_ | refine zJ ?_ | refine zK ?_ ?_ | refine zL ?_ ?_ | refine And.intro (show logOk _ _ = true by kernel_rfl) ?_) | simp (maxSteps := 10000000) (disch := omega) only [wrap_id, wrap8, max_r, max_l, min_r, min_l] | (with_reducible refine zM (fun hb => ?_) (fun hb => ?_) <;> (try simp only [hb])) | (with_reducible refine And.intro (by first | omega | (simp; done) | (simp; omega)) ?_) | simp (maxSteps := 10000000) (implicitDefEqProofs := false) only [go_sem, Nat.reduceEqDiff, Nat.reduceBEq, ↓reduceIte, Nat.reduceAdd, Nat.reduceMul, Nat.reduceSub, Nat.reduceLeDiff, Nat.reduceLT, reduceCtorEq, Int.reduceLE, Int.reduceLT, Int.reduceToNat, Int.reduceBEq, rep48, dn, Option.bind_some, Option.map_some, e1, l1, l2, t1, t2, t3, d1, d2, d3, s1, s2, s3, List.map_append, List.length_append, List.append_assoc, List.append_nil] | fail))
end
end Go.Proofs.Ytkpkiefebipbbaa
/- Sixteen digits: their bytes, a row of one's own. -/
namespace Go.Proofs.Ytkpkiefebipbbaa
open Go.RowKit
theorem refbytes_o {G : Nat → Option (List D)} (x : F) : Spec Try.prog G 60 [.g ((refC x).map nD)] (.obj 1000 (.a (.c (.row 1000 1 0 32 .grow))) ⟨5, ((leB x.val).map bD).map C.d, false, false⟩) := by
  have hst : ∀ k, k < 16 → (leB x.val).take (2 * (k + 1)) = (leB x.val).take (2 * k) ++ [UInt8.ofNat ((refC x).getD k 0 % 256), UInt8.ofNat ((refC x).getD k 0 / 256)] := fun k hk => by
    rcases le_two x.val hk with h | h
    · rw [toF_self] at h
      exact h
    · exact absurd x.isLt h
  have hl32 := leB_len x.val
  have hla := refC_len x
  have hlt := refC_lt x
  generalize refC x = a at *
  generalize leB x.val = B at *
  obtain ⟨a1, a2, a3⟩ := cd_facts (l := a.map nD) (n := 16) (by rw [List.length_map]; exact hla)
  refine specO_go Try.func60 rfl rfl rfl (by kernel_rfl) (by (iterate 2 ((try simp (maxSteps := 10000000) (implicitDefEqProofs := false) only [go_sem, Nat.reduceEqDiff, Nat.reduceBEq, ↓reduceIte, Nat.reduceAdd, Nat.reduceMul, Nat.reduceSub, Nat.reduceLeDiff, Nat.reduceLT, reduceCtorEq, Int.reduceLE, Int.reduceLT, Int.reduceToNat, Int.reduceBEq, true_and]); (try simp (maxSteps := 10000000) (disch := omega) only [wrap_id, wrap8, max_r, max_l, min_r, min_l])))) (by (iterate 2 ((try simp (maxSteps := 10000000) (implicitDefEqProofs := false) only [go_sem, Nat.reduceEqDiff, Nat.reduceBEq, ↓reduceIte, Nat.reduceAdd, Nat.reduceMul, Nat.reduceSub, Nat.reduceLeDiff, Nat.reduceLT, reduceCtorEq, Int.reduceLE, Int.reduceLT, Int.reduceToNat, Int.reduceBEq, List.all_cons, List.all_nil]); (try simp (maxSteps := 10000000) (disch := omega) only [wrap_id, wrap8, max_r, max_l, min_r, min_l])))) fun K m => ?_
  (repeat' (first | with_reducible (first | refine zA fun Kn hK => ?_ | refine zB (by kernel_rfl) ?_ | refine zC (by kernel_rfl) (by kernel_rfl) ?_ | refine zD ?_ | refine zN ?_ | refine zF ?_ | refine zG ?_ | refine zH ?_ | (refine hK _ ?_; clear hK Kn) | (clear hK Kn; refine hK _ ?_; clear hK Kn) | (clear hK Kn; clear hK Kn; refine hK _ ?_; clear hK Kn)) | fail | with_reducible (first | refine zI ?_ | refine zJ ?_ | refine zK ?_ ?_ | refine zL ?_ ?_ | refine And.intro (show logOk _ _ = true by kernel_rfl) ?_) | simp (maxSteps := 10000000) (disch := omega) only [wrap_id, wrap8, max_r, max_l, min_r, min_l] | (with_reducible refine zM (fun hb => ?_) (fun hb => ?_) <;> (try simp only [hb])) | (with_reducible refine And.intro (by first | omega | (simp; done) | (simp; omega)) ?_) | simp (maxSteps := 10000000) (implicitDefEqProofs := false) only [go_sem, Nat.reduceEqDiff, Nat.reduceBEq, ↓reduceIte, Nat.reduceAdd, Nat.reduceMul, Nat.reduceSub, Nat.reduceLeDiff, Nat.reduceLT, reduceCtorEq, Int.reduceLE, Int.reduceLT, Int.reduceToNat, Int.reduceBEq, List.length_map, List.length_replicate, List.drop_replicate, List.take_replicate, hla, a1, a2, a3, List.append_nil] | fail))
  refine sound_grow 3 5 1 0 0 (by rfl) (by rfl) (by rfl) (by rfl) ?_
  refine sound_trim 5 0 (by rfl) ?_
  refine sound_loopR (fun x : {k : Nat // k ≤ 16} => ⟨[(1, vP 1 0), (3, vR 1000 1 (2 * x.1)), (4, vI x.1)], [(1, some ⟨51, (a.map nD).map C.d, true, false⟩), (1000, some ⟨5, ((B.take (2 * x.1)).map bD).map C.d, false, false⟩)]⟩) (fun x => 16 - x.1) ⟨0, Nat.zero_le _⟩ [(1000, 5)] (by (iterate 2 ((try simp (maxSteps := 10000000) (implicitDefEqProofs := false) only [go_sem, Nat.reduceEqDiff, Nat.reduceBEq, ↓reduceIte, Nat.reduceAdd, Nat.reduceMul, Nat.reduceSub, Nat.reduceLeDiff, Nat.reduceLT, reduceCtorEq, Int.reduceLE, Int.reduceLT, Int.reduceToNat, Int.reduceBEq, AObj.trim, List.take_zero]); (try simp (maxSteps := 10000000) (disch := omega) only [wrap_id, wrap8, max_r, max_l, min_r, min_l]))); try simp) (fun ⟨k, hk⟩ => ?_)
  have hBl : (B.take (2 * k)).length = 2 * k := by rw [List.length_take]; omega
  by_cases hlk : k < 16
  · have hb1 : decide ((k : Int) < 16) = true := decide_eq_true (by omega)
    have hg := numsC_get (l := a) (k := k) (by omega)
    have hs := hst k hlk
    have hdl := (all_getD (by omega)).1 hlt k (by omega)
    generalize a.getD k 0 = d at *
    have hc : ((B.take (2 * (k + 1))).map bD).map C.d = ((B.take (2 * k)).map bD).map C.d ++ [C.d (D.v (.int .u8 ((d % 256 : Nat) : Int))), C.d (D.v (.int .u8 ((d / 256 : Nat) : Int)))] := by
      rw [hs, List.map_append, List.map_append]
      simp only [List.map_cons, List.map_nil, bD]
      rw [UInt8.toNat_ofNat_of_lt' (by simp only [UInt8.size]; omega), UInt8.toNat_ofNat_of_lt' (by simp only [UInt8.size]; omega)]
    have h1 : d % 256 % 18446744073709551616 = d % 256 := Nat.mod_eq_of_lt (by omega)
    have h2 : d / 256 % 18446744073709551616 = d / 256 := Nat.mod_eq_of_lt (by omega)
    have h3 : d / 256 % 256 = d / 256 := Nat.mod_eq_of_lt (by omega)
    (repeat' (first | with_reducible (first | refine zA fun Kn hK => ?_ | refine zB (by kernel_rfl) ?_ | refine zC (by kernel_rfl) (by kernel_rfl) ?_ | refine zD ?_ | refine zN ?_ | refine zF ?_ | refine zG ?_ | refine zH ?_ | (refine hK _ ?_; clear hK Kn) | (clear hK Kn; refine hK _ ?_; clear hK Kn) | (clear hK Kn; clear hK Kn; refine hK _ ?_; clear hK Kn)) | fail | with_reducible (first | refine zI ?_ | refine zJ ?_ | refine zK ?_ ?_ | refine zL ?_ ?_ | refine And.intro (show logOk _ _ = true by kernel_rfl) ?_) | simp (maxSteps := 10000000) (disch := omega) only [wrap_id, wrap8, max_r, max_l, min_r, min_l] | (with_reducible refine zM (fun hb => ?_) (fun hb => ?_) <;> (try simp only [hb])) | (with_reducible refine And.intro (by first | omega | (simp; done) | (simp; omega)) ?_) | simp (maxSteps := 10000000) (implicitDefEqProofs := false) only [go_sem, Nat.reduceEqDiff, Nat.reduceBEq, ↓reduceIte, Nat.reduceAdd, Nat.reduceMul, Nat.reduceSub, Nat.reduceLeDiff, Nat.reduceLT, reduceCtorEq, Int.reduceLE, Int.reduceLT, Int.reduceToNat, Int.reduceBEq, hb1, hg, h1, h2, h3, wrap_nat, wrap8_nat, Nat.mod_mod, List.length_map, hla, hBl] | fail))
    refine ⟨[(1000, 22)], ⟨k + 1, hlk⟩, ?_⟩
    (iterate 2 ((try simp (maxSteps := 10000000) (implicitDefEqProofs := false) only [go_sem, Nat.reduceEqDiff, Nat.reduceBEq, ↓reduceIte, Nat.reduceAdd, Nat.reduceMul, Nat.reduceSub, Nat.reduceLeDiff, Nat.reduceLT, reduceCtorEq, Int.reduceLE, Int.reduceLT, Int.reduceToNat, Int.reduceBEq, hc]); (try simp (maxSteps := 10000000) (disch := omega) only [wrap_id, wrap8, max_r, max_l, min_r, min_l])))
    try (simp only [SV.a.injEq, AV.c.injEq, C.d.injEq, D.v.injEq, Value.int.injEq, true_and, and_true, DR.one.injEq, DV.c.injEq, OutO.ret.injEq]; first | done | omega | (split <;> omega) | (simp; done) | (simp; omega))
  have hb1 : decide ((k : Int) < 16) = false := decide_eq_false (by omega)
  obtain rfl : k = 16 := by omega
  have hB : B.take (2 * 16) = B := List.take_of_length_le (by omega)
  rw [hB] at hBl
  rw [hB]
  (repeat' (first | with_reducible (first | refine zA fun Kn hK => ?_ | refine zB (by kernel_rfl) ?_ | refine zC (by kernel_rfl) (by kernel_rfl) ?_ | refine zD ?_ | refine zN ?_ | refine zF ?_ | refine zG ?_ | refine zH ?_ | (refine hK _ ?_; clear hK Kn) | (clear hK Kn; refine hK _ ?_; clear hK Kn) | (clear hK Kn; clear hK Kn; refine hK _ ?_; clear hK Kn)) | refine raw_t (by rfl) (by rfl) (by rfl) | with_reducible (first | refine zI ?_ | refine zJ ?_ | refine zK ?_ ?_ | refine zL ?_ ?_ | refine And.intro (show logOk _ _ = true by kernel_rfl) ?_) | simp (maxSteps := 10000000) (disch := omega) only [wrap_id, wrap8, max_r, max_l, min_r, min_l] | (with_reducible refine zM (fun hb => ?_) (fun hb => ?_) <;> (try simp only [hb])) | (with_reducible refine And.intro (by first | omega | (simp; done) | (simp; omega)) ?_) | simp (maxSteps := 10000000) (implicitDefEqProofs := false) only [go_sem, Nat.reduceEqDiff, Nat.reduceBEq, ↓reduceIte, Nat.reduceAdd, Nat.reduceMul, Nat.reduceSub, Nat.reduceLeDiff, Nat.reduceLT, reduceCtorEq, Int.reduceLE, Int.reduceLT, Int.reduceToNat, Int.reduceBEq, hb1, List.length_map, hl32, List.take_length] | fail))
end Go.Proofs.Ytkpkiefebipbbaa
/- Points by digits: their bytes. -/
namespace Go.Proofs.Ytkpkiefebipbbaa
open Go.RowKit
theorem leB_top (x : F) : ((leB x.val).getD 31 0).toNat < 128 := by
  have h1 : ((leB x.val).getD 31 0).toNat = topB (leB x.val) := rfl
  rw [h1, ← topB_div (leB_len _), leV_leB (Nat.lt_trans x.isLt (by decide +kernel)), Nat.div_lt_iff_lt_mul (Nat.pow_pos (by omega))]
  exact Nat.lt_trans x.isLt (by decide +kernel)
theorem w8_add {a : Nat} : IntKind.u8.wrap ((a : Int) + 128) = (((a + 128) % 256 : Nat) : Int) := by
  rw [show (a : Int) + 128 = ((a + 128 : Nat) : Int) by omega, wrap8_nat]
section
variable {G : Nat → Option (List D)}
theorem rbytes_m (x y z : F) : Spec Try.prog G 26 [.g (p3D x y z)] (.one (.c (bytesD (encB (x * finv z, y * finv z))))) := by
  have hi : Spec Try.prog G 56 [.g (rD1 z)] (.one (.g (rD1 (finv z)))) := refinv_m z
  have hm : ∀ x y : F, Spec Try.prog G 55 [.g (rD1 x), .g (rD1 y)] (.one (.g (rD1 (x * y)))) := fun x y => refmul_m x y
  have hy := hm y (finv z)
  have hx := hm x (finv z)
  clear hm
  have hb := refbytes_o (G := G) (y * finv z)
  have he : encB (x * finv z, y * finv z) = if oddF (x * finv z) then setTop (leB (y * finv z).val) else leB (y * finv z).val := rfl
  rw [he]
  have lb := leB_len (y * finv z).val
  have ht := leB_top (y * finv z)
  have ho := refC_odd (x * finv z)
  have hg0 := numsC_get (l := refC (x * finv z)) (k := 0) (by rw [refC_len]; omega)
  have hg0' : (rC1 (x * finv z))[0]? = some (C.d (D.v (.int .u64 ((refC (x * finv z)).getD 0 0 : Nat)))) := hg0
  have hmm : (refC (x * finv z)).getD 0 0 % 2 % 18446744073709551616 = (refC (x * finv z)).getD 0 0 % 2 := Nat.mod_eq_of_lt (by omega)
  change Spec Try.prog G _ [.g (rD1 (y * finv z))] _ at hb
  clear hg0
  generalize leB (y * finv z).val = b at *
  generalize hoo : oddF (x * finv z) = od at *
  have hg : ((b.map bD).map C.d)[31]? = some (C.d (D.v (.int .u8 ((b.getD 31 0).toNat : Int)))) := by
    rw [List.getElem?_map, List.getElem?_map, topB_get lb]
    rfl
  have hset := bytesC_set (l := b) (k := 31) (v := (b.getD 31 0).toNat % 128 + 128) (by omega)
  rw [← show setTop b = b.set 31 (UInt8.ofNat ((b.getD 31 0).toNat % 128 + 128)) from rfl, show (b.getD 31 0).toNat % 128 + 128 = (b.getD 31 0).toNat + 128 by omega] at hset
  have hw : IntKind.u8.wrap (((b.getD 31 0).toNat : Int) + 128) = (((b.getD 31 0).toNat + 128 : Nat) : Int) := by
    rw [w8_add, Nat.mod_eq_of_lt (by omega)]
  have ls : (setTop b).length = 32 := by rw [setTop, List.length_set, lb]
  obtain ⟨z1, z2, z3⟩ := cd_facts (l := b.map bD) (n := 32) (by rw [List.length_map, lb])
  obtain ⟨z4, z5, z6⟩ := cd_facts (l := (setTop b).map bD) (n := 32) (by rw [List.length_map, ls])
  generalize setTop b = o at *
  have l1 := rD1_len
  have l2 := rC1_len
  have e1 : ∀ x, (rD1 x).map C.d = rC1 x := fun _ => rfl
  have t1 := fun (x : F) (B : List C) => tk16 (B := B) (rC1_len x)
  have t2 := fun (x : F) (B : List C) => tk32 (B := B) (rC1_len x)
  have t3 := fun (x : F) (B : List C) => tk48 (B := B) (rC1_len x)
  have d1 := fun (x : F) (B : List C) => dp16 (B := B) (rC1_len x)
  have d2 := fun (x : F) (B : List C) => dp32 (B := B) (rC1_len x)
  have d3 := fun (x : F) (B : List C) => dp48 (B := B) (rC1_len x)
  have s1 := fun (x : F) => (cd_facts (rD1_len x)).1
  have s2 := fun (x : F) => (cd_facts (rD1_len x)).2.1
  have s3 := fun (x : F) => (cd_facts (rD1_len x)).2.2
  simp only [e1] at s2 s3
  have dn : ∀ x, dOnly (rC1 x) = some (rD1 x) := fun x => by simp only [rC1, go_sem]
  unfold p3D
  cases od <;> simp only [Bool.false_eq_true, if_true, if_false]
  all_goals
    refine spec_of Try.func26 rfl rfl rfl (by kernel_rfl) rfl fun K => ?_
    (repeat' (first | with_reducible (first | refine zA fun Kn hK => ?_ | refine zB (by kernel_rfl) ?_ | refine zC (by kernel_rfl) (by kernel_rfl) ?_ | refine zD ?_ | refine zN ?_ | refine zF ?_ | refine zG ?_ | refine zH ?_ | (refine hK _ ?_; clear hK Kn) | (clear hK Kn; refine hK _ ?_; clear hK Kn) | (clear hK Kn; clear hK Kn; refine hK _ ?_; clear hK Kn)) | (refine ⟨_, hi, ?_⟩) | (refine ⟨_, hy, ?_⟩) | (refine ⟨_, hx, ?_⟩) | (refine ⟨_, hb, ?_⟩) | with_reducible (first | refine zI ?_ | refine zJ ?_ | refine zK ?_ ?_ | refine zL ?_ ?_ | refine And.intro (show logOk _ _ = true by kernel_rfl) ?_) | simp (maxSteps := 10000000) (disch := omega) only [wrap_id, wrap8, max_r, max_l, min_r, min_l] | (with_reducible refine zM (fun hb => ?_) (fun hb => ?_) <;> (try simp only [hb])) | (with_reducible refine And.intro (by first | omega | (simp; done) | (simp; omega)) ?_) | simp (maxSteps := 10000000) (implicitDefEqProofs := false) only [go_sem, Nat.reduceEqDiff, Nat.reduceBEq, ↓reduceIte, Nat.reduceAdd, Nat.reduceMul, Nat.reduceSub, Nat.reduceLeDiff, Nat.reduceLT, reduceCtorEq, Int.reduceLE, Int.reduceLT, Int.reduceToNat, Int.reduceBEq, hg, hset, hw, hg0', ho, hmm, int_beqL, wrap_nat, z1, z2, z3, z4, z5, z6, lb, ls, List.length_map, dn, Option.bind_some, Option.map_some, e1, l1, l2, t1, t2, t3, d1, d2, d3, s1, s2, s3, List.map_append, List.length_append, List.append_assoc, List.append_nil, List.length_replicate, List.drop_replicate] | fail))
  all_goals (first | rfl | (unfold bytesD; rw [lb]) | (unfold bytesD; rw [ls]))
end
end Go.Proofs.Ytkpkiefebipbbaa
/- Points by digits: roots. -/
namespace Go.Proofs.Ytkpkiefebipbbaa
open Go.RowKit
section
variable {G : Nat → Option (List D)}
theorem rroot_m (y : F) : Spec Try.prog G 50 [.g (rD1 y)] (.many [.g (rD1 (rootF ((y * y - 1) * finv (dF * (y * y) + 1)))), .c (.v (.bool (rootOk ((y * y - 1) * finv (dF * (y * y) + 1)))))]) := by
  have h1 : Spec Try.prog G 52 [.c (.v (.int .u64 1))] (.one (.g (rD1 1))) := refof_m 1 (by omega)
  have hd : Spec Try.prog G 57 [] (.one (.g (rD1 dF))) := refD_m
  have hm : ∀ x y : F, Spec Try.prog G 55 [.g (rD1 x), .g (rD1 y)] (.one (.g (rD1 (x * y)))) := fun x y => refmul_m x y
  have ha : ∀ x y : F, Spec Try.prog G 77 [.g (rD1 x), .g (rD1 y)] (.one (.g (rD1 (x + y)))) := fun x y => refadd_m x y
  have hs : ∀ x y : F, Spec Try.prog G 78 [.g (rD1 x), .g (rD1 y)] (.one (.g (rD1 (x - y)))) := fun x y => refsub_m x y
  have hi : ∀ x : F, Spec Try.prog G 56 [.g (rD1 x)] (.one (.g (rD1 (finv x)))) := fun x => refinv_m x
  have hr : ∀ x : F, Spec Try.prog G 79 [.g (rD1 x)] (.many [.g (rD1 (rootF x)), .c (.v (.bool (rootOk x)))]) := fun x => refroot_m x
  have l1 := rD1_len
  have l2 := rC1_len
  have e1 : ∀ x, (rD1 x).map C.d = rC1 x := fun _ => rfl
  have t1 := fun (x : F) (B : List C) => tk16 (B := B) (rC1_len x)
  have t2 := fun (x : F) (B : List C) => tk32 (B := B) (rC1_len x)
  have t3 := fun (x : F) (B : List C) => tk48 (B := B) (rC1_len x)
  have d1 := fun (x : F) (B : List C) => dp16 (B := B) (rC1_len x)
  have d2 := fun (x : F) (B : List C) => dp32 (B := B) (rC1_len x)
  have d3 := fun (x : F) (B : List C) => dp48 (B := B) (rC1_len x)
  have s1 := fun (x : F) => (cd_facts (rD1_len x)).1
  have s2 := fun (x : F) => (cd_facts (rD1_len x)).2.1
  have s3 := fun (x : F) => (cd_facts (rD1_len x)).2.2
  simp only [e1] at s2 s3
  have dn : ∀ x, dOnly (rC1 x) = some (rD1 x) := fun x => by simp only [rC1, go_sem]
  have r16 : List.replicate 16 (C.d (.v (.int .u64 0))) = rC1 0 := by rw [rC1, rD1, refC_zero]; rfl
  refine spec_of Try.func50 rfl rfl rfl (by kernel_rfl) rfl fun K => ?_
  (repeat' (first | with_reducible (first | refine zA fun Kn hK => ?_ | refine zB (by kernel_rfl) ?_ | refine zC (by kernel_rfl) (by kernel_rfl) ?_ | refine zD ?_ | refine zN ?_ | refine zF ?_ | refine zG ?_ | refine zH ?_ | (refine hK _ ?_; clear hK Kn) | (clear hK Kn; refine hK _ ?_; clear hK Kn) | (clear hK Kn; clear hK Kn; refine hK _ ?_; clear hK Kn)) | (refine ⟨_, h1, ?_⟩) | (refine ⟨_, hd, ?_⟩) | (refine ⟨_, hi _, ?_⟩) | (refine ⟨_, hr _, ?_⟩) | (refine ⟨_, hm _ _, ?_⟩) | (refine ⟨_, ha _ _, ?_⟩) | (refine ⟨_, hs _ _, ?_⟩) | with_reducible (first | refine zI ?_ | refine zJ ?_ | refine zK ?_ ?_ | refine zL ?_ ?_ | refine And.intro (show logOk _ _ = true by kernel_rfl) ?_) | simp (maxSteps := 10000000) (disch := omega) only [wrap_id, wrap8, max_r, max_l, min_r, min_l] | (with_reducible refine zM (fun hb => ?_) (fun hb => ?_) <;> (try simp only [hb])) | (with_reducible refine And.intro (by first | omega | (simp; done) | (simp; omega)) ?_) | simp (maxSteps := 10000000) (implicitDefEqProofs := false) only [go_sem, Nat.reduceEqDiff, Nat.reduceBEq, ↓reduceIte, Nat.reduceAdd, Nat.reduceMul, Nat.reduceSub, Nat.reduceLeDiff, Nat.reduceLT, reduceCtorEq, Int.reduceLE, Int.reduceLT, Int.reduceToNat, Int.reduceBEq, r16, dn, Option.bind_some, Option.map_some, e1, l1, l2, t1, t2, t3, d1, d2, d3, s1, s2, s3, List.map_append, List.length_append, List.append_assoc, List.append_nil] | fail))
end
end Go.Proofs.Ytkpkiefebipbbaa
/- Points by digits: the base. -/
namespace Go.Proofs.Ytkpkiefebipbbaa
open Go.RowKit
section
variable {G : Nat → Option (List D)}
theorem rbase_w {f4 f5 i y x one : F} {ok : Bool} (h1 : Spec Try.prog G 52 [.c (.v (.int .u64 4))] (.one (.g (rD1 f4))))
    (h2 : Spec Try.prog G 52 [.c (.v (.int .u64 5))] (.one (.g (rD1 f5))))
    (h3 : Spec Try.prog G 56 [.g (rD1 f5)] (.one (.g (rD1 i))))
    (h4 : Spec Try.prog G 55 [.g (rD1 f4), .g (rD1 i)] (.one (.g (rD1 y))))
    (h5 : Spec Try.prog G 50 [.g (rD1 y)] (.many [.g (rD1 x), .c (.v (.bool ok))]))
    (h6 : Spec Try.prog G 52 [.c (.v (.int .u64 1))] (.one (.g (rD1 one)))) :
    Spec Try.prog G 23 [] (.one (.g (p3D x y one))) := by
  have l1 := rD1_len
  have l2 := rC1_len
  have e1 : ∀ x, (rD1 x).map C.d = rC1 x := fun _ => rfl
  have t1 := fun (x : F) (B : List C) => tk16 (B := B) (rC1_len x)
  have t2 := fun (x : F) (B : List C) => tk32 (B := B) (rC1_len x)
  have t3 := fun (x : F) (B : List C) => tk48 (B := B) (rC1_len x)
  have d1 := fun (x : F) (B : List C) => dp16 (B := B) (rC1_len x)
  have d2 := fun (x : F) (B : List C) => dp32 (B := B) (rC1_len x)
  have d3 := fun (x : F) (B : List C) => dp48 (B := B) (rC1_len x)
  have s1 := fun (x : F) => (cd_facts (rD1_len x)).1
  have s2 := fun (x : F) => (cd_facts (rD1_len x)).2.1
  have s3 := fun (x : F) => (cd_facts (rD1_len x)).2.2
  simp only [e1] at s2 s3
  have dn : ∀ x, dOnly (rC1 x) = some (rD1 x) := fun x => by simp only [rC1, go_sem]
  have r16 : List.replicate 16 (C.d (.v (.int .u64 0))) = rC1 0 := by rw [rC1, rD1, refC_zero]; rfl
  unfold p3D
  refine spec_of Try.func23 rfl rfl rfl (by kernel_rfl) rfl fun K => ?_
  (repeat' (first | with_reducible (first | refine zA fun Kn hK => ?_ | refine zB (by kernel_rfl) ?_ | refine zC (by kernel_rfl) (by kernel_rfl) ?_ | refine zD ?_ | refine zN ?_ | refine zF ?_ | refine zG ?_ | refine zH ?_ | (refine hK _ ?_; clear hK Kn) | (clear hK Kn; refine hK _ ?_; clear hK Kn) | (clear hK Kn; clear hK Kn; refine hK _ ?_; clear hK Kn)) | (refine ⟨_, h1, ?_⟩) | (refine ⟨_, h2, ?_⟩) | (refine ⟨_, h3, ?_⟩) | (refine ⟨_, h4, ?_⟩) | (refine ⟨_, h5, ?_⟩) | (refine ⟨_, h6, ?_⟩) | with_reducible (first | refine zI ?_ | refine zJ ?_ | refine zK ?_ ?_ | refine zL ?_ ?_ | refine And.intro (show logOk _ _ = true by kernel_rfl) ?_) | simp (maxSteps := 10000000) (disch := omega) only [wrap_id, wrap8, max_r, max_l, min_r, min_l] | (with_reducible refine zM (fun hb => ?_) (fun hb => ?_) <;> (try simp only [hb])) | (with_reducible refine And.intro (by first | omega | (simp; done) | (simp; omega)) ?_) | simp (maxSteps := 10000000) (implicitDefEqProofs := false) only [go_sem, Nat.reduceEqDiff, Nat.reduceBEq, ↓reduceIte, Nat.reduceAdd, Nat.reduceMul, Nat.reduceSub, Nat.reduceLeDiff, Nat.reduceLT, reduceCtorEq, Int.reduceLE, Int.reduceLT, Int.reduceToNat, Int.reduceBEq, rep48, r16, dn, Option.bind_some, Option.map_some, e1, l1, l2, t1, t2, t3, d1, d2, d3, s1, s2, s3, List.map_append, List.length_append, List.append_assoc, List.append_nil] | fail))
theorem rbase_m : Spec Try.prog G 23 [] (.one (.g (p3D xBase yBase 1))) := by
  have hm := refmul_m (G := G) (toF 4) (finv (toF 5))
  rw [y45] at hm
  have hr := rroot_m (G := G) yBase
  change Spec Try.prog G _ _ (.many [.g (rD1 (rootF (uF yBase))), .c (.v (.bool (rootOk (uF yBase))))]) at hr
  rw [uF_base, rootF_base] at hr
  exact rbase_w (refof_m 4 (by omega)) (refof_m 5 (by omega)) (refinv_m _) hm hr (refof_m 1 (by omega))
end
end Go.Proofs.Ytkpkiefebipbbaa
/- Points by digits: multiples. -/
namespace Go.Proofs.Ytkpkiefebipbbaa
open Go.RowKit
/-- Three numbers that stand for a point. -/
abbrev T3 := F × F × F
def t3D (t : T3) : List D := p3D t.1 t.2.1 t.2.2
theorem t3D_len (t : T3) : (t3D t).length = 48 := p3D_len _ _ _
def aT (s t : T3) : T3 := (rX s.1 s.2.1 s.2.2 t.1 t.2.1 t.2.2 dF, rY s.1 s.2.1 s.2.2 t.1 t.2.1 t.2.2 dF, rZ s.1 s.2.1 s.2.2 t.1 t.2.1 t.2.2 dF)
def tmB (p : T3) (V : Nat) : Nat → T3
  | 0 => (0, 1, 1)
  | k + 1 => if V / 2 ^ (255 - k) % 2 = 1 then aT (aT (tmB p V k) (tmB p V k)) p else aT (tmB p V k) (tmB p V k)
section
variable {G : Nat → Option (List D)}
theorem rtimes_m (p : T3) (n : List UInt8) (ln : n.length = 32) : Spec Try.prog G 24 [.g (t3D p), .c (bytesD n)] (.one (.g (t3D (tmB p (leV n) 256)))) := by
  have hz : Spec Try.prog G 58 [] (.one (.g (t3D (0, 1, 1)))) := rzero_m
  have hd : Spec Try.prog G 57 [] (.one (.g (rD1 dF))) := refD_m
  have ha : ∀ s t : T3, Spec Try.prog G 59 [.g (t3D s), .g (t3D t), .g (rD1 dF)] (.one (.g (t3D (aT s t)))) := fun s t => radd_m _ _ _ _ _ _ _
  have hlen := t3D_len
  have c1 := fun t => (cd_facts (t3D_len t)).1
  have c2 := fun t => (cd_facts (t3D_len t)).2.1
  have c3 := fun t => (cd_facts (t3D_len t)).2.2
  have s0 := rD1_len
  have s1 := fun (x : F) => (cd_facts (rD1_len x)).1
  have s2 := fun (x : F) => (cd_facts (rD1_len x)).2.1
  have s3 := fun (x : F) => (cd_facts (rD1_len x)).2.2
  have hbitL := fun i (y : UInt8) (h : n[i / 8]? = some y) => leV_bit h
  generalize leV n = V at *
  refine spec_of Try.func24 rfl rfl rfl (by kernel_rfl) rfl fun K => ?_
  (repeat' (first | with_reducible (first | refine zA fun Kn hK => ?_ | refine zB (by kernel_rfl) ?_ | refine zC (by kernel_rfl) (by kernel_rfl) ?_ | refine zD ?_ | refine zN ?_ | refine zF ?_ | refine zG ?_ | refine zH ?_ | (refine hK _ ?_; clear hK Kn) | (clear hK Kn; refine hK _ ?_; clear hK Kn) | (clear hK Kn; clear hK Kn; refine hK _ ?_; clear hK Kn)) | (refine ⟨_, hd, ?_⟩) | (refine ⟨_, hz, ?_⟩) | with_reducible (first | refine zI ?_ | refine zJ ?_ | refine zK ?_ ?_ | refine zL ?_ ?_ | refine And.intro (show logOk _ _ = true by kernel_rfl) ?_) | simp (maxSteps := 10000000) (disch := omega) only [wrap_id, wrap8, max_r, max_l, min_r, min_l] | (with_reducible refine zM (fun hb => ?_) (fun hb => ?_) <;> (try simp only [hb])) | (with_reducible refine And.intro (by first | omega | (simp; done) | (simp; omega)) ?_) | simp (maxSteps := 10000000) (implicitDefEqProofs := false) only [go_sem, Nat.reduceEqDiff, Nat.reduceBEq, ↓reduceIte, Nat.reduceAdd, Nat.reduceMul, Nat.reduceSub, Nat.reduceLeDiff, Nat.reduceLT, reduceCtorEq, Int.reduceLE, Int.reduceLT, Int.reduceToNat, Int.reduceBEq, hlen, c1, c2, c3, s0, s1, s2, s3, List.length_map, List.length_replicate, List.drop_replicate, List.append_nil] | fail))
  refine sound_loopR (fun y : {k : Nat // k ≤ 256} => ⟨[(1, vD (bytesD n)), (2, vP 2 0), (4, vP 4 0), (5, vP 5 0), (6, vP 6 0), (7, vI (255 - (y.1 : Int)))], [(2, some ⟨53, (t3D p).map C.d, true, false⟩), (4, some ⟨53, zeroOf Try.prog 53, true, false⟩), (5, some ⟨51, (rD1 dF).map C.d, true, false⟩), (6, some ⟨53, (t3D (tmB p V y.1)).map C.d, true, false⟩)]⟩) (fun y => 256 - y.1) ⟨0, by omega⟩ [] (by (iterate 2 ((try simp (maxSteps := 10000000) (implicitDefEqProofs := false) only [go_sem, Nat.reduceEqDiff, Nat.reduceBEq, ↓reduceIte, Nat.reduceAdd, Nat.reduceMul, Nat.reduceSub, Nat.reduceLeDiff, Nat.reduceLT, reduceCtorEq, Int.reduceLE, Int.reduceLT, Int.reduceToNat, Int.reduceBEq, tmB]); (try simp (maxSteps := 10000000) (disch := omega) only [wrap_id, wrap8, max_r, max_l, min_r, min_l]))); try simp) (fun ⟨k, hk⟩ => ?_)
  by_cases hlt : k < 256
  · obtain ⟨j, hj⟩ : ∃ j, 255 - k = j := ⟨_, rfl⟩
    have e1 : (255 : Int) - (k : Int) = (j : Int) := by omega
    have hb1 : decide ((j : Int) ≥ 0) = true := decide_eq_true (by omega)
    obtain ⟨y, hy⟩ : ∃ y, n[j / 8]? = some y := ⟨_, List.getElem?_eq_getElem (by omega)⟩
    have hgy := flatB hy
    have hy8 : y.toNat < 256 := y.toNat_lt
    have hbit := hbitL j y hy
    have hnx : tmB p V (k + 1) = if V / 2 ^ j % 2 = 1 then aT (aT (tmB p V k) (tmB p V k)) p else aT (tmB p V k) (tmB p V k) := by rw [tmB, hj]
    generalize tmB p V k = R at *
    rw [e1]
    (repeat' (first | with_reducible (first | refine zA fun Kn hK => ?_ | refine zB (by kernel_rfl) ?_ | refine zC (by kernel_rfl) (by kernel_rfl) ?_ | refine zD ?_ | refine zN ?_ | refine zF ?_ | refine zG ?_ | refine zH ?_ | (refine hK _ ?_; clear hK Kn) | (clear hK Kn; refine hK _ ?_; clear hK Kn) | (clear hK Kn; clear hK Kn; refine hK _ ?_; clear hK Kn)) | (refine ⟨_, ha _ _, ?_⟩) | with_reducible (first | refine zI ?_ | refine zJ ?_ | refine zK ?_ ?_ | refine zL ?_ ?_ | refine And.intro (show logOk _ _ = true by kernel_rfl) ?_) | simp (maxSteps := 10000000) (disch := omega) only [wrap_id, wrap8, max_r, max_l, min_r, min_l] | (with_reducible refine zM (fun hb => ?_) (fun hb => ?_) <;> (try simp only [hb])) | (with_reducible refine And.intro (by first | omega | (simp; done) | (simp; omega)) ?_) | simp (maxSteps := 10000000) (implicitDefEqProofs := false) only [go_sem, Nat.reduceEqDiff, Nat.reduceBEq, ↓reduceIte, Nat.reduceAdd, Nat.reduceMul, Nat.reduceSub, Nat.reduceLeDiff, Nat.reduceLT, reduceCtorEq, Int.reduceLE, Int.reduceLT, Int.reduceToNat, Int.reduceBEq, hb1, hgy, ln, hlen, c1, c2, c3, s0, s1, s2, s3, List.length_map, List.append_nil] | fail))
    refine sound_loopR (fun q : {i : Nat // i ≤ j % 8} => ⟨[(1, vD (bytesD n)), (2, vP 2 0), (4, vP 4 0), (5, vP 5 0), (6, vP 6 0), (7, vI j), (8, .a (.c (.d (.v (.int .u8 ((y.toNat / 2 ^ q.1 : Nat) : Int)))))), (9, vI q.1)], [(2, some ⟨53, (t3D p).map C.d, true, false⟩), (4, some ⟨53, zeroOf Try.prog 53, true, false⟩), (5, some ⟨51, (rD1 dF).map C.d, true, false⟩), (6, some ⟨53, (t3D (aT R R)).map C.d, true, false⟩)]⟩) (fun q => 8 - q.1) ⟨0, Nat.zero_le _⟩ [] (by (iterate 2 ((try simp (maxSteps := 10000000) (implicitDefEqProofs := false) only [go_sem, Nat.reduceEqDiff, Nat.reduceBEq, ↓reduceIte, Nat.reduceAdd, Nat.reduceMul, Nat.reduceSub, Nat.reduceLeDiff, Nat.reduceLT, reduceCtorEq, Int.reduceLE, Int.reduceLT, Int.reduceToNat, Int.reduceBEq, true_and]); (try simp (maxSteps := 10000000) (disch := omega) only [wrap_id, wrap8, max_r, max_l, min_r, min_l]))); try simp [ln]) (fun ⟨i, hi⟩ => ?_)
    have hle : y.toNat / 2 ^ i ≤ y.toNat := Nat.div_le_self _ _
    by_cases hij : i < j % 8
    · have hb2 : decide ((i : Int) < ((j % 8 : Nat) : Int)) = true := decide_eq_true (by omega)
      have hs2 : y.toNat / 2 ^ (i + 1) = y.toNat / 2 ^ i / 2 := by rw [Nat.pow_succ, Nat.div_div_eq_div_mul]
      have hq : y.toNat / 2 ^ i / 2 % 256 = y.toNat / 2 ^ i / 2 := Nat.mod_eq_of_lt (by omega)
      (repeat' (first | with_reducible (first | refine zA fun Kn hK => ?_ | refine zB (by kernel_rfl) ?_ | refine zC (by kernel_rfl) (by kernel_rfl) ?_ | refine zD ?_ | refine zN ?_ | refine zF ?_ | refine zG ?_ | refine zH ?_ | (refine hK _ ?_; clear hK Kn) | (clear hK Kn; refine hK _ ?_; clear hK Kn) | (clear hK Kn; clear hK Kn; refine hK _ ?_; clear hK Kn)) | fail | with_reducible (first | refine zI ?_ | refine zJ ?_ | refine zK ?_ ?_ | refine zL ?_ ?_ | refine And.intro (show logOk _ _ = true by kernel_rfl) ?_) | simp (maxSteps := 10000000) (disch := omega) only [wrap_id, wrap8, max_r, max_l, min_r, min_l] | (with_reducible refine zM (fun hb => ?_) (fun hb => ?_) <;> (try simp only [hb])) | (with_reducible refine And.intro (by first | omega | (simp; done) | (simp; omega)) ?_) | simp (maxSteps := 10000000) (implicitDefEqProofs := false) only [go_sem, Nat.reduceEqDiff, Nat.reduceBEq, ↓reduceIte, Nat.reduceAdd, Nat.reduceMul, Nat.reduceSub, Nat.reduceLeDiff, Nat.reduceLT, reduceCtorEq, Int.reduceLE, Int.reduceLT, Int.reduceToNat, Int.reduceBEq, hb2, hq, wrap8_nat] | fail))
      refine ⟨[], ⟨i + 1, hij⟩, ?_⟩
      (iterate 2 ((try simp (maxSteps := 10000000) (implicitDefEqProofs := false) only [go_sem, Nat.reduceEqDiff, Nat.reduceBEq, ↓reduceIte, Nat.reduceAdd, Nat.reduceMul, Nat.reduceSub, Nat.reduceLeDiff, Nat.reduceLT, reduceCtorEq, Int.reduceLE, Int.reduceLT, Int.reduceToNat, Int.reduceBEq, hs2]); (try simp (maxSteps := 10000000) (disch := omega) only [wrap_id, wrap8, max_r, max_l, min_r, min_l])))
      try (simp only [SV.a.injEq, AV.c.injEq, C.d.injEq, D.v.injEq, Value.int.injEq, true_and, and_true, DR.one.injEq, DV.c.injEq, OutO.ret.injEq]; first | done | omega | (split <;> omega) | (simp; done) | (simp; omega))
      try omega
    · have hb2 : decide ((i : Int) < ((j % 8 : Nat) : Int)) = false := decide_eq_false (by omega)
      obtain rfl : i = j % 8 := by omega
      generalize y.toNat / 2 ^ (j % 8) = dd at *
      have hm : dd % 2 % 256 = dd % 2 := Nat.mod_eq_of_lt (by omega)
      by_cases h1 : V / 2 ^ j % 2 = 1
      · rw [if_pos h1] at hnx
        have hbb : (dd % 2 == 1) = true := by rw [hbit, h1]; rfl
        (repeat' (first | with_reducible (first | refine zA fun Kn hK => ?_ | refine zB (by kernel_rfl) ?_ | refine zC (by kernel_rfl) (by kernel_rfl) ?_ | refine zD ?_ | refine zN ?_ | refine zF ?_ | refine zG ?_ | refine zH ?_ | (refine hK _ ?_; clear hK Kn) | (clear hK Kn; refine hK _ ?_; clear hK Kn) | (clear hK Kn; clear hK Kn; refine hK _ ?_; clear hK Kn)) | (refine ⟨_, ha _ _, ?_⟩) | with_reducible (first | refine zI ?_ | refine zJ ?_ | refine zK ?_ ?_ | refine zL ?_ ?_ | refine And.intro (show logOk _ _ = true by kernel_rfl) ?_) | simp (maxSteps := 10000000) (disch := omega) only [wrap_id, wrap8, max_r, max_l, min_r, min_l] | (with_reducible refine zM (fun hb => ?_) (fun hb => ?_) <;> (try simp only [hb])) | (with_reducible refine And.intro (by first | omega | (simp; done) | (simp; omega)) ?_) | simp (maxSteps := 10000000) (implicitDefEqProofs := false) only [go_sem, Nat.reduceEqDiff, Nat.reduceBEq, ↓reduceIte, Nat.reduceAdd, Nat.reduceMul, Nat.reduceSub, Nat.reduceLeDiff, Nat.reduceLT, reduceCtorEq, Int.reduceLE, Int.reduceLT, Int.reduceToNat, Int.reduceBEq, hb2, hm, hbb, int_beqL, wrap8_nat, hlen, c1, c2, c3, s0, s1, s2, s3, List.length_map, List.append_nil] | fail))
        refine ⟨[], ⟨k + 1, by omega⟩, ?_⟩
        (iterate 2 ((try simp (maxSteps := 10000000) (implicitDefEqProofs := false) only [go_sem, Nat.reduceEqDiff, Nat.reduceBEq, ↓reduceIte, Nat.reduceAdd, Nat.reduceMul, Nat.reduceSub, Nat.reduceLeDiff, Nat.reduceLT, reduceCtorEq, Int.reduceLE, Int.reduceLT, Int.reduceToNat, Int.reduceBEq, hnx]); (try simp (maxSteps := 10000000) (disch := omega) only [wrap_id, wrap8, max_r, max_l, min_r, min_l])))
        try (simp only [SV.a.injEq, AV.c.injEq, C.d.injEq, D.v.injEq, Value.int.injEq, true_and, and_true, DR.one.injEq, DV.c.injEq, OutO.ret.injEq]; first | done | omega | (split <;> omega) | (simp; done) | (simp; omega))
        try omega
      · rw [if_neg h1] at hnx
        have hbb : (dd % 2 == 1) = false := by rw [hbit]; simpa using h1
        (repeat' (first | with_reducible (first | refine zA fun Kn hK => ?_ | refine zB (by kernel_rfl) ?_ | refine zC (by kernel_rfl) (by kernel_rfl) ?_ | refine zD ?_ | refine zN ?_ | refine zF ?_ | refine zG ?_ | refine zH ?_ | (refine hK _ ?_; clear hK Kn) | (clear hK Kn; refine hK _ ?_; clear hK Kn) | (clear hK Kn; clear hK Kn; refine hK _ ?_; clear hK Kn)) | (refine ⟨_, ha _ _, ?_⟩) | with_reducible (first | refine zI ?_ | refine zJ ?_ | refine zK ?_ ?_ | refine zL ?_ ?_ | refine And.intro (show logOk _ _ = true by kernel_rfl) ?_) | simp (maxSteps := 10000000) (disch := omega) only [wrap_id, wrap8, max_r, max_l, min_r, min_l] | (with_reducible refine zM (fun hb => ?_) (fun hb => ?_) <;> (try simp only [hb])) | (with_reducible refine And.intro (by first | omega | (simp; done) | (simp; omega)) ?_) | simp (maxSteps := 10000000) (implicitDefEqProofs := false) only [go_sem, Nat.reduceEqDiff, Nat.reduceBEq, ↓reduceIte, Nat.reduceAdd, Nat.reduceMul, Nat.reduceSub, Nat.reduceLeDiff, Nat.reduceLT, reduceCtorEq, Int.reduceLE, Int.reduceLT, Int.reduceToNat, Int.reduceBEq, hb2, hm, hbb, int_beqL, wrap8_nat, hlen, c1, c2, c3, s0, s1, s2, s3, List.length_map, List.append_nil] | fail))
        refine ⟨[], ⟨k + 1, by omega⟩, ?_⟩
        (iterate 2 ((try simp (maxSteps := 10000000) (implicitDefEqProofs := false) only [go_sem, Nat.reduceEqDiff, Nat.reduceBEq, ↓reduceIte, Nat.reduceAdd, Nat.reduceMul, Nat.reduceSub, Nat.reduceLeDiff, Nat.reduceLT, reduceCtorEq, Int.reduceLE, Int.reduceLT, Int.reduceToNat, Int.reduceBEq, hnx]); (try simp (maxSteps := 10000000) (disch := omega) only [wrap_id, wrap8, max_r, max_l, min_r, min_l])))
        try (simp only [SV.a.injEq, AV.c.injEq, C.d.injEq, D.v.injEq, Value.int.injEq, true_and, and_true, DR.one.injEq, DV.c.injEq, OutO.ret.injEq]; first | done | omega | (split <;> omega) | (simp; done) | (simp; omega))
        try omega
  · obtain rfl : k = 256 := by omega
    have e1 : (255 : Int) - ((256 : Nat) : Int) = -1 := by omega
    have hb1 : decide ((-1 : Int) ≥ 0) = false := rfl
    rw [e1]
    generalize tmB p V 256 = R at *
    (repeat' (first | with_reducible (first | refine zA fun Kn hK => ?_ | refine zB (by kernel_rfl) ?_ | refine zC (by kernel_rfl) (by kernel_rfl) ?_ | refine zD ?_ | refine zN ?_ | refine zF ?_ | refine zG ?_ | refine zH ?_ | (refine hK _ ?_; clear hK Kn) | (clear hK Kn; refine hK _ ?_; clear hK Kn) | (clear hK Kn; clear hK Kn; refine hK _ ?_; clear hK Kn)) | fail | with_reducible (first | refine zI ?_ | refine zJ ?_ | refine zK ?_ ?_ | refine zL ?_ ?_ | refine And.intro (show logOk _ _ = true by kernel_rfl) ?_) | simp (maxSteps := 10000000) (disch := omega) only [wrap_id, wrap8, max_r, max_l, min_r, min_l] | (with_reducible refine zM (fun hb => ?_) (fun hb => ?_) <;> (try simp only [hb])) | (with_reducible refine And.intro (by first | omega | (simp; done) | (simp; omega)) ?_) | simp (maxSteps := 10000000) (implicitDefEqProofs := false) only [go_sem, Nat.reduceEqDiff, Nat.reduceBEq, ↓reduceIte, Nat.reduceAdd, Nat.reduceMul, Nat.reduceSub, Nat.reduceLeDiff, Nat.reduceLT, reduceCtorEq, Int.reduceLE, Int.reduceLT, Int.reduceToNat, Int.reduceBEq, hb1, hlen, c1, c2, c3, List.length_map, List.length_replicate, List.drop_replicate, List.append_nil] | fail))
end
end Go.Proofs.Ytkpkiefebipbbaa
/- Points by digits: of bytes. -/
namespace Go.Proofs.Ytkpkiefebipbbaa
open Go.RowKit
theorem rC1_key (x : F) : KeyL Try.prog 51 (rC1 x) ((refC x).map litN) := refC_key x
section
variable {G : Nat → Option (List D)}
theorem rget_w {b : List UInt8} {x y : F} {ok1 ok2 od z0 : Bool} (lb : b.length = 32) (hod : od = decide (128 ≤ topB b)) (hz : z0 = decide (x = 0))
    (h1 : Spec Try.prog G 49 [.c (.sl 32 ((ownB b).map bD))] (.many [.g (rD1 y), .c (.v (.bool ok1))]))
    (h2 : Spec Try.prog G 50 [.g (rD1 y)] (.many [.g (rD1 x), .c (.v (.bool ok2))]))
    (h3 : Spec Try.prog G 51 [.g (rD1 x)] (.one (.g (rD1 (-x)))))
    (h4 : Spec Try.prog G 52 [.c (.v (.int .u64 1))] (.one (.g (rD1 1)))) :
    Spec Try.prog G 21 [.c (.sl 32 (b.map bD))] (.many [.g (if ok1 && (ok2 && !(od && z0)) then p3D (if od then -x else x) y 1 else p3D 0 0 0), .c (.v (.bool (ok1 && (ok2 && !(od && z0)))))]) := by
  have l1 := rD1_len
  have l2 := rC1_len
  have e1 : ∀ x, (rD1 x).map C.d = rC1 x := fun _ => rfl
  have t1 := fun (x : F) (B : List C) => tk16 (B := B) (rC1_len x)
  have t2 := fun (x : F) (B : List C) => tk32 (B := B) (rC1_len x)
  have t3 := fun (x : F) (B : List C) => tk48 (B := B) (rC1_len x)
  have d1 := fun (x : F) (B : List C) => dp16 (B := B) (rC1_len x)
  have d2 := fun (x : F) (B : List C) => dp32 (B := B) (rC1_len x)
  have d3 := fun (x : F) (B : List C) => dp48 (B := B) (rC1_len x)
  have s1 := fun (x : F) => (cd_facts (rD1_len x)).1
  have s2 := fun (x : F) => (cd_facts (rD1_len x)).2.1
  have s3 := fun (x : F) => (cd_facts (rD1_len x)).2.2
  simp only [e1] at s2 s3
  have dn : ∀ x, dOnly (rC1 x) = some (rD1 x) := fun x => by simp only [rC1, go_sem]
  have r16 : List.replicate 16 (C.d (.v (.int .u64 0))) = rC1 0 := by rw [rC1, rD1, refC_zero]; rfl
  have hg : ((b.map bD).map C.d)[31]? = some (C.d (D.v (.int .u8 ((topB b : Nat) : Int)))) := by
    rw [List.getElem?_map, List.getElem?_map, topB_get lb]
    rfl
  have htb : topB b < 256 := (b.getD 31 0).toNat_lt
  have hset := bytesC_set (l := b) (k := 31) (v := topB b % 128) (by omega)
  rw [← show ownB b = b.set 31 (UInt8.ofNat (topB b % 128)) from rfl] at hset
  have lo : (ownB b).length = 32 := by rw [ownB_len, lb]
  have hge : decide ((topB b : Int) ≥ 128) = od := by
    rw [hod, decide_eq_decide]
    omega
  have hm : topB b % 128 % 256 = topB b % 128 := Nat.mod_eq_of_lt (by omega)
  obtain ⟨o1, o2, o3⟩ := cd_facts (l := (ownB b).map bD) (n := 32) (by rw [List.length_map, lo])
  obtain ⟨b1, b2, b3⟩ := cd_facts (l := b.map bD) (n := 32) (by rw [List.length_map, lb])
  have hk1 := rC1_key x
  have hk2 := rC1_key 0
  have hh : (z0 = true) ↔ (refC x).map litN = (refC 0).map litN := refC_key_eq hz
  clear hz hod
  generalize ownB b = o at *
  generalize topB b = tb at *
  unfold p3D
  cases ok1
  · simp only [Bool.false_and, Bool.false_eq_true, if_false]
    cases od
    all_goals
      refine spec_of Try.func21 rfl rfl rfl (by kernel_rfl) rfl fun K => ?_
      (repeat' (first | with_reducible (first | refine zA fun Kn hK => ?_ | refine zB (by kernel_rfl) ?_ | refine zC (by kernel_rfl) (by kernel_rfl) ?_ | refine zD ?_ | refine zN ?_ | refine zF ?_ | refine zG ?_ | refine zH ?_ | (refine hK _ ?_; clear hK Kn) | (clear hK Kn; refine hK _ ?_; clear hK Kn) | (clear hK Kn; clear hK Kn; refine hK _ ?_; clear hK Kn)) | (refine ⟨none, ?_⟩) | (refine ⟨_, h1, ?_⟩) | with_reducible (first | refine zI ?_ | refine zJ ?_ | refine zK ?_ ?_ | refine zL ?_ ?_ | refine And.intro (show logOk _ _ = true by kernel_rfl) ?_) | simp (maxSteps := 10000000) (disch := omega) only [wrap_id, wrap8, max_r, max_l, min_r, min_l] | (with_reducible refine zM (fun hb => ?_) (fun hb => ?_) <;> (try simp only [hb])) | (with_reducible refine And.intro (by first | omega | (simp; done) | (simp; omega)) ?_) | simp (maxSteps := 10000000) (implicitDefEqProofs := false) only [go_sem, Nat.reduceEqDiff, Nat.reduceBEq, ↓reduceIte, Nat.reduceAdd, Nat.reduceMul, Nat.reduceSub, Nat.reduceLeDiff, Nat.reduceLT, reduceCtorEq, Int.reduceLE, Int.reduceLT, Int.reduceToNat, Int.reduceBEq, hg, hge, hset, hm, wrap8_nat, Bool.not_false, Bool.not_true, o1, o2, o3, b1, b2, b3, lb, lo, List.length_map, rep48, r16, dn, Option.bind_some, Option.map_some, e1, l1, l2, t1, t2, t3, d1, d2, d3, s1, s2, s3, List.map_append, List.length_append, List.append_assoc, List.append_nil, List.nil_append] | fail))
  cases ok2
  · simp only [Bool.false_and, Bool.true_and, Bool.false_eq_true, if_false]
    cases od
    all_goals
      refine spec_of Try.func21 rfl rfl rfl (by kernel_rfl) rfl fun K => ?_
      (repeat' (first | with_reducible (first | refine zA fun Kn hK => ?_ | refine zB (by kernel_rfl) ?_ | refine zC (by kernel_rfl) (by kernel_rfl) ?_ | refine zD ?_ | refine zN ?_ | refine zF ?_ | refine zG ?_ | refine zH ?_ | (refine hK _ ?_; clear hK Kn) | (clear hK Kn; refine hK _ ?_; clear hK Kn) | (clear hK Kn; clear hK Kn; refine hK _ ?_; clear hK Kn)) | (refine ⟨none, ?_⟩) | (refine ⟨_, h1, ?_⟩) | (refine ⟨_, h2, ?_⟩) | (refine run_agg_eql (by kernel_rfl) hk1 hk2 hh ?_) | with_reducible (first | refine zI ?_ | refine zJ ?_ | refine zK ?_ ?_ | refine zL ?_ ?_ | refine And.intro (show logOk _ _ = true by kernel_rfl) ?_) | simp (maxSteps := 10000000) (disch := omega) only [wrap_id, wrap8, max_r, max_l, min_r, min_l] | (with_reducible refine zM (fun hb => ?_) (fun hb => ?_) <;> (try simp only [hb])) | (with_reducible refine And.intro (by first | omega | (simp; done) | (simp; omega)) ?_) | simp (maxSteps := 10000000) (implicitDefEqProofs := false) only [go_sem, Nat.reduceEqDiff, Nat.reduceBEq, ↓reduceIte, Nat.reduceAdd, Nat.reduceMul, Nat.reduceSub, Nat.reduceLeDiff, Nat.reduceLT, reduceCtorEq, Int.reduceLE, Int.reduceLT, Int.reduceToNat, Int.reduceBEq, hg, hge, hset, hm, wrap8_nat, Bool.not_false, Bool.not_true, o1, o2, o3, b1, b2, b3, lb, lo, List.length_map, rep48, r16, dn, Option.bind_some, Option.map_some, e1, l1, l2, t1, t2, t3, d1, d2, d3, s1, s2, s3, List.map_append, List.length_append, List.append_assoc, List.append_nil, List.nil_append] | fail))
  cases od <;> cases z0 <;> simp only [Bool.false_and, Bool.true_and, Bool.and_true, Bool.and_false, Bool.not_false, Bool.not_true, Bool.false_eq_true, if_false, if_true]
  all_goals
    refine spec_of Try.func21 rfl rfl rfl (by kernel_rfl) rfl fun K => ?_
    (repeat' (first | with_reducible (first | refine zA fun Kn hK => ?_ | refine zB (by kernel_rfl) ?_ | refine zC (by kernel_rfl) (by kernel_rfl) ?_ | refine zD ?_ | refine zN ?_ | refine zF ?_ | refine zG ?_ | refine zH ?_ | (refine hK _ ?_; clear hK Kn) | (clear hK Kn; refine hK _ ?_; clear hK Kn) | (clear hK Kn; clear hK Kn; refine hK _ ?_; clear hK Kn)) | (refine ⟨none, ?_⟩) | (refine ⟨_, h1, ?_⟩) | (refine ⟨_, h2, ?_⟩) | (refine ⟨_, h3, ?_⟩) | (refine ⟨_, h4, ?_⟩) | (refine run_agg_eql (by kernel_rfl) hk1 hk2 hh ?_) | with_reducible (first | refine zI ?_ | refine zJ ?_ | refine zK ?_ ?_ | refine zL ?_ ?_ | refine And.intro (show logOk _ _ = true by kernel_rfl) ?_) | simp (maxSteps := 10000000) (disch := omega) only [wrap_id, wrap8, max_r, max_l, min_r, min_l] | (with_reducible refine zM (fun hb => ?_) (fun hb => ?_) <;> (try simp only [hb])) | (with_reducible refine And.intro (by first | omega | (simp; done) | (simp; omega)) ?_) | simp (maxSteps := 10000000) (implicitDefEqProofs := false) only [go_sem, Nat.reduceEqDiff, Nat.reduceBEq, ↓reduceIte, Nat.reduceAdd, Nat.reduceMul, Nat.reduceSub, Nat.reduceLeDiff, Nat.reduceLT, reduceCtorEq, Int.reduceLE, Int.reduceLT, Int.reduceToNat, Int.reduceBEq, hg, hge, hset, hm, wrap8_nat, Bool.not_false, Bool.not_true, o1, o2, o3, b1, b2, b3, lb, lo, List.length_map, rep48, r16, dn, Option.bind_some, Option.map_some, e1, l1, l2, t1, t2, t3, d1, d2, d3, s1, s2, s3, List.map_append, List.length_append, List.append_assoc, List.append_nil, List.nil_append] | fail))
end
end Go.Proofs.Ytkpkiefebipbbaa
/- Points by three numbers: which points these stand for; multiples by bits. -/
namespace Go.Proofs.Ytkpkiefebipbbaa
section
variable {x1 y1 x2 y2 z1 z2 d X1 Y1 X2 Y2 : F} (hX1 : X1 = x1 * z1) (hY1 : Y1 = y1 * z1) (hX2 : X2 = x2 * z2) (hY2 : Y2 = y2 * z2)
include hX1 hY1 hX2 hY2
theorem g_prG : z1 * z2 * (z1 * z2) - d * (X1 * X2) * (Y1 * Y2) = z1 * z2 * (z1 * z2) * (1 - d * x1 * x2 * y1 * y2) := by grobner
theorem g_prH : z1 * z2 * (z1 * z2) + d * (X1 * X2) * (Y1 * Y2) = z1 * z2 * (z1 * z2) * (1 + d * x1 * x2 * y1 * y2) := by grobner
theorem g_prK : (X1 + Y1) * (X2 + Y2) - X1 * X2 - Y1 * Y2 = z1 * z2 * (x1 * y2 + x2 * y1) := by grobner
theorem g_prE : Y1 * Y2 + X1 * X2 = z1 * z2 * (y1 * y2 + x1 * x2) := by grobner
end
theorem g_prX {w a m p u : F} (hu : p * u = 1) : w * (w * w * m) * (w * a) = a * u * ((w * w * m) * (w * w * p)) := by grobner
theorem g_prY {w b m p v : F} (hv : m * v = 1) : w * (w * w * p) * (w * b) = b * v * ((w * w * m) * (w * w * p)) := by grobner
/-- Three numbers that stand for a point. -/
structure Prj (X Y Z : F) (P : F × F) : Prop where
  on : OnP P
  nz : Z ≠ 0
  x : X = P.1 * Z
  y : Y = P.2 * Z
theorem prj_add {X1 Y1 Z1 X2 Y2 Z2 : F} {P Q : F × F} (h : Prj X1 Y1 Z1 P) (k : Prj X2 Y2 Z2 Q) :
    Prj (Z1 * Z2 * (Z1 * Z2 * (Z1 * Z2) - dF * (X1 * X2) * (Y1 * Y2)) * ((X1 + Y1) * (X2 + Y2) - X1 * X2 - Y1 * Y2))
      (Z1 * Z2 * (Z1 * Z2 * (Z1 * Z2) + dF * (X1 * X2) * (Y1 * Y2)) * (Y1 * Y2 + X1 * X2))
      ((Z1 * Z2 * (Z1 * Z2) - dF * (X1 * X2) * (Y1 * Y2)) * (Z1 * Z2 * (Z1 * Z2) + dF * (X1 * X2) * (Y1 * Y2))) (pAdd P Q) := by
  have hp := plus_ne h.on k.on
  have hm := minus_ne h.on k.on
  have hw : Z1 * Z2 ≠ 0 := F.mul_ne h.nz k.nz
  rw [g_prG h.x h.y k.x k.y, g_prH h.x h.y k.x k.y, g_prK h.x h.y k.x k.y, g_prE h.x h.y k.x k.y]
  exact ⟨pAdd_on h.on k.on, F.mul_ne (F.mul_ne (F.mul_ne hw hw) hm) (F.mul_ne (F.mul_ne hw hw) hp), g_prX (mul_inv hp), g_prY (mul_inv hm)⟩
theorem prj_O : Prj 0 1 1 pO := ⟨pO_on, one_ne, g_x0, g_x1⟩
theorem prj_x {X Y Z : F} {P : F × F} (h : Prj X Y Z P) : X * finv Z = P.1 := by
  rw [h.x]
  exact g_sm3 (mul_inv h.nz)
theorem prj_y {X Y Z : F} {P : F × F} (h : Prj X Y Z P) : Y * finv Z = P.2 := by
  rw [h.y]
  exact g_sm3 (mul_inv h.nz)
theorem prj_of {P : F × F} (h : OnP P) : Prj P.1 P.2 1 P := ⟨h, one_ne, g_x3, g_x3⟩
def PrjT (t : T3) (P : F × F) : Prop := Prj t.1 t.2.1 t.2.2 P
theorem prjT_add {s t : T3} {P Q : F × F} (h : PrjT s P) (k : PrjT t Q) : PrjT (aT s t) (pAdd P Q) := prj_add h k
theorem tmB_st {p : T3} {P : F × F} (h : PrjT p P) (V : Nat) (hV : V < 2 ^ 256) : ∀ k, k ≤ 256 → PrjT (tmB p V k) (nmul (V / 2 ^ (256 - k)) P)
  | 0, _ => by
    rw [show V / 2 ^ (256 - 0) = 0 from Nat.div_eq_of_lt hV]
    exact prj_O
  | k + 1, hk => by
    have ih := tmB_st h V hV k (by omega)
    have e1 : 256 - k = (255 - k) + 1 := by omega
    have e2 : 256 - (k + 1) = 255 - k := by omega
    rw [e1, Nat.pow_succ, ← Nat.div_div_eq_div_mul] at ih
    rw [e2, tmB]
    generalize V / 2 ^ (255 - k) = m at *
    have hd := prjT_add ih ih
    rw [← nmul_two h.on] at hd
    by_cases hb : m % 2 = 1
    · rw [if_pos hb]
      have := prjT_add hd h
      rw [show m = 2 * (m / 2) + 1 by omega, nmul]
      exact this
    · rw [if_neg hb]
      rw [show m = 2 * (m / 2) by omega]
      exact hd
theorem tmB_full {p : T3} {P : F × F} (h : PrjT p P) {n : List UInt8} (ln : n.length = 32) : PrjT (tmB p (leV n) 256) (nmul (leV n) P) := by
  have := tmB_st h (leV n) (by have := leV_lt n; rw [ln] at this; exact this) 256 (Nat.le_refl _)
  rwa [Nat.sub_self, Nat.pow_zero, Nat.div_one] at this
theorem g_neg00 {x z : F} (hz : z = 0) : -x = z - x := by grobner
theorem rget_m {G : Nat → Option (List D)} {b : List UInt8} (lb : b.length = 32) : Spec Try.prog G 21 [.c (bytesD b)] (.many [.g (if decOk b then p3D (decP b).1 (decP b).2 1 else p3D 0 0 0), .c (.v (.bool (decOk b)))]) := by
  have h1 := refraw_m (G := G) (ownB b) (by rw [ownB_len, lb])
  rw [ownB_val lb] at h1
  have h2 := rroot_m (G := G) (yB b)
  have h3 := refneg_m (G := G) (rootF (uF (yB b)))
  have h4 := refof_m (G := G) 1 (by omega)
  have e4 : toF 1 = 1 := by decide +kernel
  rw [e4] at h4
  have hod : oddB b = decide (128 ≤ topB b) := (odd_top lb).symm
  unfold bytesD at h1 ⊢
  rw [ownB_len, lb] at h1
  rw [lb]
  have h := rget_w (G := G) (b := b) (x := rootF (uF (yB b))) (y := yB b) (ok1 := decide (leV b % 2 ^ 255 < pP)) (ok2 := rootOk (uF (yB b))) (od := oddB b) (z0 := decide (rootF (uF (yB b)) = 0)) lb hod rfl h1 h2 h3 h4
  have e1 : decOk b = (decide (leV b % 2 ^ 255 < pP) && (rootOk (uF (yB b)) && !(oddB b && decide (rootF (uF (yB b)) = 0)))) := by
    unfold decOk canB
    rw [lb]
    rfl
  have e2 : decP b = (if oddB b then -rootF (uF (yB b)) else rootF (uF (yB b)), yB b) := by
    unfold decP
    rw [g_neg00 (x := rootF (uF (yB b))) rfl]
  rw [e1, e2]
  exact h
end Go.Proofs.Ytkpkiefebipbbaa
/- Roots are roots; a point's bytes are that point's. -/
namespace Go.Proofs.Ytkpkiefebipbbaa
theorem g_one2 {s e : F} (h : s * s = e * e) : (s - e) * (s + e) = 0 := by grobner
theorem g_eq0 {s e : F} (h : s - e = 0) : s = e := by grobner
theorem g_neg0 {s e : F} (h : s + e = 0) : s = -e := by grobner
theorem g_neg1 {s z e : F} (hz : z = 0) (h : s + e = z) : s = z - e := by grobner
theorem g_rtB {a i u s e : F} (h : a * a = s * u) (hs : s = -e) (hi : i * i = -e) (he : e = 1) : a * i * (a * i) = u := by grobner
theorem g_sub0 {x z : F} (hz : z = 0) (h : z - x = z) : z = x := by grobner
theorem g_nn {x z : F} (hz : z = 0) : z - (z - x) = x := by grobner
theorem fpow_zero_base {n : Nat} (h : 0 < n) : fpow 0 n = 0 := F.ext (by rw [fpow_val, F.zero_val, Nat.zero_pow h]; rfl)
theorem fpow_sq (x : F) (n : Nat) : fpow (x * x) n = fpow x (n + n) := by rw [mul_fpow, fpow_add]
theorem rootOk_sq (x : F) : rootOk (x * x) = true := by
  unfold rootOk
  apply decide_eq_true
  unfold rootC
  split
  · assumption
  · rename_i hne
    by_cases hx : x = 0
    · subst hx
      exfalso
      apply hne
      unfold rootA
      have h0 : (0 : F) * 0 = 0 := g_zero
      rw [h0, fpow_zero_base (by decide +kernel), h0]
    · have ha : rootA (x * x) * rootA (x * x) = fpow (x * x) (2 ^ 253 - 5) * (x * x) := by
        unfold rootA
        rw [← fpow_add, ← fpow_succ, show (2 ^ 252 - 2 + (2 ^ 252 - 2) : Nat) = 2 ^ 253 - 5 + 1 by decide +kernel]
      have hs : fpow (x * x) (2 ^ 253 - 5) * fpow (x * x) (2 ^ 253 - 5) = 1 * 1 := by
        rw [fpow_sq, ← fpow_add, show (2 ^ 253 - 5 + (2 ^ 253 - 5) + (2 ^ 253 - 5 + (2 ^ 253 - 5)) : Nat) = pP - 1 by decide +kernel, fermat hx]
        exact g_x1
      generalize fpow (x * x) (2 ^ 253 - 5) = s at *
      unfold rootB
      rw [root2]
      rcases F.mul_eq_zero (g_one2 hs) with h1 | h1
      · exfalso
        apply hne
        rw [ha, g_eq0 h1]
        exact (g_rot.trans g_x3.symm)
      · exact g_rtB ha (g_neg0 h1) iF_sq rfl
theorem pP_odd : pP % 2 = 1 := by decide +kernel
theorem F.sub_val0 {x : F} (h : x ≠ 0) : (0 - x).val = pP - x.val := by
  have hx : x.val ≠ 0 := fun e => h (F.ext e)
  have hl := x.isLt
  show (pP - x.val + 0) % pP = _
  rw [Nat.add_zero, Nat.mod_eq_of_lt (by omega)]
theorem odd_subN {p v : Nat} (h2 : p % 2 = 1) (hl : v < p) : decide ((p - v) % 2 = 1) = !decide (v % 2 = 1) := by
  rw [Bool.eq_iff_iff]
  simp only [decide_eq_true_eq, Bool.not_eq_true', decide_eq_false_iff_not]
  omega
theorem odd_neg {x : F} (h : x ≠ 0) : oddF (0 - x) = !oddF x := by
  unfold oddF
  rw [F.sub_val0 h]
  exact odd_subN pP_odd x.isLt
theorem odd_zero : oddF 0 = false := by decide +kernel
theorem rootF_even {u : F} (h : rootOk u = true) : oddF (rootF u) = false := by
  unfold rootF
  rw [if_pos h]
  split
  · rename_i ho
    rw [odd_neg, ho]
    · rfl
    · intro e
      rw [e, odd_zero] at ho
      cases ho
  · rename_i ho
    simpa using ho
theorem zero_sub0 : (0 : F) - 0 = 0 := by decide +kernel
theorem root_pick {x r : F} (hsq : r * r = x * x) (hev : oddF r = false) : r = if oddF x then 0 - x else x := by
  rcases F.mul_eq_zero (g_one2 hsq) with h1 | h1
  · have h2 := g_eq0 h1
    rw [← h2, hev, if_neg Bool.false_ne_true]
  · have e : r = 0 - x := g_neg1 rfl h1
    by_cases hx : x = 0
    · rw [e, hx, odd_zero, if_neg Bool.false_ne_true]
      exact zero_sub0
    · rw [e, odd_neg hx] at hev
      rw [if_pos (by simpa using hev), e]
theorem rootF_of (x : F) : rootF (x * x) = if oddF x then 0 - x else x :=
  root_pick (rootF_sq (rootOk_sq x)) (rootF_even (rootOk_sq x))
theorem encB_val (P : F × F) : leV (encB P) = P.2.val + (if oddF P.1 then 2 ^ 255 else 0) := by
  have hl : leV (leB P.2.val) = P.2.val := leV_leB P.2.lt256
  unfold encB
  split
  · have ht := leB_top P.2
    have hs := leV_set (l := leB P.2.val) (j := 31) (d := UInt8.ofNat (((leB P.2.val).getD 31 0).toNat % 128 + 128)) (topB_get (leB_len _))
    rw [← setTop, hl] at hs
    have hd : (UInt8.ofNat (((leB P.2.val).getD 31 0).toNat % 128 + 128)).toNat = ((leB P.2.val).getD 31 0).toNat + 128 := by
      rw [UInt8.toNat_ofNat_of_lt' (by simp only [UInt8.size]; omega)]
      omega
    rw [hd, Nat.mul_add] at hs
    have hp : (256 : Nat) ^ 31 * 128 = 2 ^ 255 := by decide +kernel
    rw [hp] at hs
    omega
  · rw [hl]
    rfl
theorem dec_enc {P : F × F} (h : OnP P) : decOk (encB P) = true ∧ decP (encB P) = P := by
  have hv := encB_val P
  have hlt := P.2.isLt
  have hp : pP < 2 ^ 255 := by decide +kernel
  have hm : leV (encB P) % 2 ^ 255 = P.2.val := by
    rw [hv]
    split
    · rw [Nat.add_mod_right, Nat.mod_eq_of_lt (Nat.lt_trans hlt hp)]
    · rw [Nat.add_zero, Nat.mod_eq_of_lt (Nat.lt_trans hlt hp)]
  have hy : yB (encB P) = P.2 := by rw [yB, hm, toF_self]
  have ho : oddB (encB P) = oddF P.1 := by
    unfold oddB
    rw [hv]
    cases hc : oddF P.1
    · exact decide_eq_false (by rw [if_neg (by decide)]; omega)
    · exact decide_eq_true (by rw [if_pos rfl]; omega)
  have hc : canB (encB P) = true := by
    unfold canB
    rw [hm, encB_len, decide_eq_true hlt]
    rfl
  have hu : P.1 * P.1 = uF P.2 := uF_of h
  have hok := rootOk_sq P.1
  have hf := rootF_of P.1
  rw [hu] at hok hf
  constructor
  · unfold decOk
    rw [hc, hy, hok, ho, hf]
    cases hodd : oddF P.1
    · rfl
    · simp only [Bool.true_and, if_true, Bool.not_eq_true', decide_eq_false_iff_not]
      intro e
      have h0 : P.1 = 0 := (g_sub0 rfl e).symm
      rw [h0, odd_zero] at hodd
      cases hodd
  · unfold decP
    rw [hy, ho, hf]
    refine Prod.ext ?_ rfl
    cases hodd : oddF P.1
    · rfl
    · exact g_nn rfl
theorem encB_inj {P Q : F × F} (hp : OnP P) (hq : OnP Q) : encB P = encB Q ↔ P = Q := by
  constructor
  · intro h
    rw [← (dec_enc hp).2, h, (dec_enc hq).2]
  · rintro rfl
    rfl
end Go.Proofs.Ytkpkiefebipbbaa
/- The base, as often as the order says, is the point that changes nothing. -/
namespace Go.Proofs.Ytkpkiefebipbbaa
abbrev N3 := Nat × Nat × Nat
def mulN (a b : Nat) : Nat := a * b % pP
def addN (a b : Nat) : Nat := (a + b) % pP
def subN (a b : Nat) : Nat := (a + (pP - b % pP)) % pP
def gN (w c e : Nat) : Nat := subN (mulN w w) (mulN (mulN dF.val c) e)
def hN (w c e : Nat) : Nat := addN (mulN w w) (mulN (mulN dF.val c) e)
def aXN (w c e k : Nat) : Nat := mulN (mulN w (gN w c e)) (subN (subN k c) e)
def aYN (w c e : Nat) : Nat := mulN (mulN w (hN w c e)) (addN e c)
def aZN (w c e : Nat) : Nat := mulN (gN w c e) (hN w c e)
def aTN (s t : N3) : N3 := (aXN (mulN s.2.2 t.2.2) (mulN s.1 t.1) (mulN s.2.1 t.2.1) (mulN (addN s.1 s.2.1) (addN t.1 t.2.1)), aYN (mulN s.2.2 t.2.2) (mulN s.1 t.1) (mulN s.2.1 t.2.1), aZN (mulN s.2.2 t.2.2) (mulN s.1 t.1) (mulN s.2.1 t.2.1))
def toT (s : N3) : T3 := (toF s.1, toF s.2.1, toF s.2.2)
theorem toF_mulN (a b : Nat) : toF (mulN a b) = toF a * toF b := by rw [← toF_mul]; exact toF_eq (Nat.mod_mod _ _)
theorem toF_addN (a b : Nat) : toF (addN a b) = toF a + toF b := by rw [← toF_add]; exact toF_eq (Nat.mod_mod _ _)
theorem g_subof {a b c : F} (h : c + b = a) : c = a - b := by grobner
theorem toF_subN (a b : Nat) : toF (subN a b) = toF a - toF b := by
  apply g_subof
  rw [← toF_add]
  apply toF_eq
  have h0 : 0 < pP := by decide
  have h := Nat.mod_lt b h0
  have e : a + (pP - b % pP) + b = a + pP * (b / pP + 1) := by
    have := Nat.div_add_mod b pP
    rw [Nat.mul_add]
    omega
  unfold subN
  rw [Nat.mod_add_mod, e, Nat.add_mul_mod_self_left]
theorem toT_add (s t : N3) : toT (aTN s t) = aT (toT s) (toT t) := by
  unfold toT aT aTN rX rY rZ aXN aYN aZN gN hN
  simp only [toF_mulN, toF_addN, toF_subN, toF_self]
/-- The multiples by the lowest k bits of m, behind r. -/
def tmN (m : Nat) (q : N3) : Nat → N3 → N3
  | 0, r => r
  | k + 1, r => tmN m q k (if m / 2 ^ k % 2 = 1 then aTN (aTN r r) q else aTN r r)
theorem tmN_st {q : N3} {P : F × F} (h : PrjT (toT q) P) (m : Nat) : ∀ k a r, PrjT (toT r) (nmul a P) → PrjT (toT (tmN m q k r)) (nmul (a * 2 ^ k + m % 2 ^ k) P)
  | 0, a, r, hr => by
    rw [Nat.pow_zero, Nat.mod_one, Nat.mul_one, Nat.add_zero]
    exact hr
  | k + 1, a, r, hr => by
    rw [tmN]
    have hd : PrjT (toT (aTN r r)) (nmul (2 * a) P) := by
      rw [toT_add, nmul_two h.on]
      exact prjT_add hr hr
    have hm : m % 2 ^ (k + 1) = m / 2 ^ k % 2 * 2 ^ k + m % 2 ^ k := by
      rw [Nat.pow_succ, Nat.mod_mul]
      have := Nat.mul_comm (2 ^ k) (m / 2 ^ k % 2)
      omega
    rw [hm]
    by_cases hb : m / 2 ^ k % 2 = 1
    · rw [if_pos hb, hb]
      have h1 : PrjT (toT (aTN (aTN r r) q)) (nmul (2 * a + 1) P) := by
        rw [toT_add, nmul]
        exact prjT_add hd h
      have h2 := tmN_st h m k _ _ h1
      have e : (2 * a + 1) * 2 ^ k + m % 2 ^ k = a * 2 ^ (k + 1) + (1 * 2 ^ k + m % 2 ^ k) := by
        rw [Nat.pow_succ, Nat.add_mul, Nat.mul_comm 2 a, Nat.mul_assoc, Nat.mul_comm 2 (2 ^ k)]
        omega
      rwa [e] at h2
    · rw [if_neg hb, show m / 2 ^ k % 2 = 0 by omega]
      have h2 := tmN_st h m k _ _ hd
      have e : 2 * a * 2 ^ k + m % 2 ^ k = a * 2 ^ (k + 1) + (0 * 2 ^ k + m % 2 ^ k) := by
        rw [Nat.pow_succ, Nat.mul_comm 2 a, Nat.mul_assoc, Nat.mul_comm 2 (2 ^ k)]
        omega
      rwa [e] at h2
def bN : N3 := (15112221349535400772501151409588531511454012693041857206046113283949847762202, 46316835694926478169428394003475163141307993866256225615783033603165251855960, 1)
theorem bN_st : PrjT (toT bN) pB := by
  have h := prj_of pB_on
  exact h
end Go.Proofs.Ytkpkiefebipbbaa
/- Secret numbers, out of their walks. -/
namespace Go.Proofs.Ytkpkiefebipbbaa
open Go.RowKit
/-- A seed's secret number, of its sum. -/
def secN (h : List UInt8) : List UInt8 := ((h.take 32).set 0 (UInt8.ofNat ((h.getD 0 0).toNat - (h.getD 0 0).toNat % 8))).set 31 (UInt8.ofNat ((h.getD 31 0).toNat % 64 + 64))
theorem secN_len {h : List UInt8} (lh : h.length = 64) : (secN h).length = 32 := by rw [secN, List.length_set, List.length_set, List.length_take, lh]; rfl
@[go_sem] theorem andNot_7 {y : UInt8} : andNotI .u8 (y.toNat : Int) 7 = ((y.toNat - y.toNat % 8 : Nat) : Int) := by
  have := byte_cases (P := fun n => andNotI .u8 (n : Int) 7 == ((n - n % 8 : Nat) : Int)) (by decide +kernel) y.toNat_lt
  simpa using this
theorem or_64n {n : Nat} (h : n < 256) : orI .u8 ((n % 128 : Nat) : Int) 64 = ((n % 64 + 64 : Nat) : Int) := by
  have := byte_cases (P := fun n => orI .u8 ((n % 128 : Nat) : Int) 64 == ((n % 64 + 64 : Nat) : Int)) (by decide +kernel) h
  simpa using this
@[go_sem] theorem or8_64 {y : UInt8} : orI .u8 ((y.toNat % 128 : Nat) : Int) 64 = ((y.toNat % 64 + 64 : Nat) : Int) := or_64n y.toNat_lt
section
variable {G : Nat → Option (List D)}
theorem secret_w {seed h : List UInt8} (lh : h.length = 64) (hs : Spec Try.prog G 43 [.c (.sl 1 [bytesD seed])] (.one (.g (h.map bD)))) :
    Spec Try.prog G 27 [.c (bytesD seed)] (.many [.g ((secN h).map bD), .c (bytesD (h.drop 32))]) := by
  obtain ⟨z1, z2, z3⟩ := cd_facts (l := h.map bD) (n := 64) (by rw [List.length_map, lh])
  have lt : (h.take 32).length = 32 := by rw [List.length_take, lh]; rfl
  have ld : (h.drop 32).length = 32 := by rw [List.length_drop, lh]
  have ht : ((h.map bD).map C.d).take 32 = ((h.take 32).map bD).map C.d := by rw [List.map_take, List.map_take]
  have hd : ((h.map bD).map C.d).drop 32 = ((h.drop 32).map bD).map C.d := by rw [List.map_drop, List.map_drop]
  have e0 : (h.take 32)[0]? = some (h.getD 0 0) := by
    rw [List.getElem?_take, if_pos (by omega), List.getD_eq_getElem?_getD]
    rw [List.getElem?_eq_getElem (by omega), Option.getD_some]
  have e1 : ((h.take 32).set 0 (UInt8.ofNat ((h.getD 0 0).toNat - (h.getD 0 0).toNat % 8)))[31]? = some (h.getD 31 0) := by
    rw [List.getElem?_set_ne (by omega), List.getElem?_take, if_pos (by omega), List.getD_eq_getElem?_getD]
    rw [List.getElem?_eq_getElem (by omega), Option.getD_some]
  have g0 := bytesC_get e0
  have g1 := bytesC_get e1
  have s0 := bytesC_set (l := h.take 32) (k := 0) (v := (h.getD 0 0).toNat - (h.getD 0 0).toNat % 8) (by have := (h.getD 0 0).toNat_lt; omega)
  have s1 := bytesC_set (l := (h.take 32).set 0 (UInt8.ofNat ((h.getD 0 0).toNat - (h.getD 0 0).toNat % 8))) (k := 31) (v := (h.getD 31 0).toNat % 64 + 64) (by omega)
  have hsn : ((h.take 32).set 0 (UInt8.ofNat ((h.getD 0 0).toNat - (h.getD 0 0).toNat % 8))).set 31 (UInt8.ofNat ((h.getD 31 0).toNat % 64 + 64)) = secN h := rfl
  rw [hsn] at s1
  have ln := secN_len lh
  have lm : ((h.take 32).set 0 (UInt8.ofNat ((h.getD 0 0).toNat - (h.getD 0 0).toNat % 8))).length = 32 := by rw [List.length_set, lt]
  obtain ⟨n1, n2, n3⟩ := cd_facts (l := (secN h).map bD) (n := 32) (by rw [List.length_map, ln])
  have hd2 : (h.map bD).drop 32 = (h.drop 32).map bD := by rw [List.map_drop]
  have hd3 : ((h.drop 32).map bD).take 32 = (h.drop 32).map bD := List.take_of_length_le (by rw [List.length_map, ld]; omega)
  generalize secN h = N at *
  generalize (h.take 32).set 0 (UInt8.ofNat ((h.getD 0 0).toNat - (h.getD 0 0).toNat % 8)) = M at *
  generalize h.getD 0 0 = b0 at *
  generalize h.getD 31 0 = b31 at *
  generalize h.take 32 = T at *
  generalize h.drop 32 = P at *
  refine spec_of Try.func27 rfl rfl rfl (by kernel_rfl) rfl fun K => ?_
  (repeat' (first | with_reducible (first | refine zA fun Kn hK => ?_ | refine zB (by kernel_rfl) ?_ | refine zC (by kernel_rfl) (by kernel_rfl) ?_ | refine zD ?_ | refine zN ?_ | refine zF ?_ | refine zG ?_ | refine zH ?_ | (refine hK _ ?_; clear hK Kn) | (clear hK Kn; refine hK _ ?_; clear hK Kn) | (clear hK Kn; clear hK Kn; refine hK _ ?_; clear hK Kn)) | (refine ⟨none, ?_⟩) | (refine ⟨_, hs, ?_⟩) | with_reducible (first | refine zI ?_ | refine zJ ?_ | refine zK ?_ ?_ | refine zL ?_ ?_ | refine And.intro (show logOk _ _ = true by kernel_rfl) ?_) | simp (maxSteps := 10000000) (disch := omega) only [wrap_id, wrap8, max_r, max_l, min_r, min_l] | (with_reducible refine zM (fun hb => ?_) (fun hb => ?_) <;> (try simp only [hb])) | (with_reducible refine And.intro (by first | omega | (simp; done) | (simp; omega)) ?_) | simp (maxSteps := 10000000) (implicitDefEqProofs := false) only [go_sem, Nat.reduceEqDiff, Nat.reduceBEq, ↓reduceIte, Nat.reduceAdd, Nat.reduceMul, Nat.reduceSub, Nat.reduceLeDiff, Nat.reduceLT, reduceCtorEq, Int.reduceLE, Int.reduceLT, Int.reduceToNat, Int.reduceBEq, ht, hd, hd2, hd3, n1, n2, n3, g0, g1, s0, s1, z1, z2, z3, lt, ld, ln, lm, lh, List.length_map, List.length_replicate, List.drop_replicate, List.append_nil] | fail))
end
end Go.Proofs.Ytkpkiefebipbbaa
/- Public keys, signatures: the walks. -/
namespace Go.Proofs.Ytkpkiefebipbbaa
open Go.RowKit
section
variable {G : Nat → Option (List D)}
theorem erest_w {n : Nat} {ls : List D} {h r : List UInt8} (lh : h.length = 64) (lr : r.length = 32) (hs : Spec Try.prog G 43 [.c (.sl n ls)] (.one (.g (h.map bD)))) (hr : Spec Try.prog G 32 [.c (.sl 64 (h.map bD))] (.one (.g (r.map bD)))) :
    Spec Try.prog G 15 [.c (.sl n ls)] (.one (.g (r.map bD))) := by
  obtain ⟨z1, z2, z3⟩ := cd_facts (l := h.map bD) (n := 64) (by rw [List.length_map, lh])
  obtain ⟨n1, n2, n3⟩ := cd_facts (l := r.map bD) (n := 32) (by rw [List.length_map, lr])
  refine spec_of Try.func15 rfl rfl rfl (by kernel_rfl) rfl fun K => ?_
  (repeat' (first | with_reducible (first | refine zA fun Kn hK => ?_ | refine zB (by kernel_rfl) ?_ | refine zC (by kernel_rfl) (by kernel_rfl) ?_ | refine zD ?_ | refine zN ?_ | refine zF ?_ | refine zG ?_ | refine zH ?_ | (refine hK _ ?_; clear hK Kn) | (clear hK Kn; refine hK _ ?_; clear hK Kn) | (clear hK Kn; clear hK Kn; refine hK _ ?_; clear hK Kn)) | (refine ⟨none, ?_⟩) | (refine ⟨_, hs, ?_⟩) | (refine ⟨_, hr, ?_⟩) | with_reducible (first | refine zI ?_ | refine zJ ?_ | refine zK ?_ ?_ | refine zL ?_ ?_ | refine And.intro (show logOk _ _ = true by kernel_rfl) ?_) | simp (maxSteps := 10000000) (disch := omega) only [wrap_id, wrap8, max_r, max_l, min_r, min_l] | (with_reducible refine zM (fun hb => ?_) (fun hb => ?_) <;> (try simp only [hb])) | (with_reducible refine And.intro (by first | omega | (simp; done) | (simp; omega)) ?_) | simp (maxSteps := 10000000) (implicitDefEqProofs := false) only [go_sem, Nat.reduceEqDiff, Nat.reduceBEq, ↓reduceIte, Nat.reduceAdd, Nat.reduceMul, Nat.reduceSub, Nat.reduceLeDiff, Nat.reduceLT, reduceCtorEq, Int.reduceLE, Int.reduceLT, Int.reduceToNat, Int.reduceBEq, z1, z2, z3, n1, n2, n3, lh, lr, List.length_map, List.length_replicate, List.drop_replicate, List.append_nil] | fail))
theorem epub_w {seed N P k : List UInt8} {B Q : List D} (ls : seed.length = 32) (lN : N.length = 32) (lk : k.length = 32) (h1 : Spec Try.prog G 27 [.c (.sl 32 (seed.map bD))] (.many [.g (N.map bD), .c (bytesD P)]))
    (h2 : Spec Try.prog G 16 [] (.one (.g B))) (h3 : Spec Try.prog G 17 [.g B, .g (N.map bD)] (.one (.g Q))) (h4 : Spec Try.prog G 28 [.g Q] (.one (.g (k.map bD)))) :
    Spec Try.prog G 9 [.c (bytesD seed)] (.many [.g (k.map bD), .c (.v (.int .i64 0))]) := by
  obtain ⟨z1, z2, z3⟩ := cd_facts (l := N.map bD) (n := 32) (by rw [List.length_map, lN])
  obtain ⟨n1, n2, n3⟩ := cd_facts (l := k.map bD) (n := 32) (by rw [List.length_map, lk])
  have d0 : (((32 : Nat) : Int) == 32) = true := rfl
  refine spec_of Try.func9 rfl rfl rfl (by kernel_rfl) rfl fun K => ?_
  (repeat' (first | with_reducible (first | refine zA fun Kn hK => ?_ | refine zB (by kernel_rfl) ?_ | refine zC (by kernel_rfl) (by kernel_rfl) ?_ | refine zD ?_ | refine zN ?_ | refine zF ?_ | refine zG ?_ | refine zH ?_ | (refine hK _ ?_; clear hK Kn) | (clear hK Kn; refine hK _ ?_; clear hK Kn) | (clear hK Kn; clear hK Kn; refine hK _ ?_; clear hK Kn)) | (refine ⟨none, ?_⟩) | (refine ⟨_, h1, ?_⟩) | (refine ⟨_, h2, ?_⟩) | (refine ⟨_, h3, ?_⟩) | (refine ⟨_, h4, ?_⟩) | with_reducible (first | refine zI ?_ | refine zJ ?_ | refine zK ?_ ?_ | refine zL ?_ ?_ | refine And.intro (show logOk _ _ = true by kernel_rfl) ?_) | simp (maxSteps := 10000000) (disch := omega) only [wrap_id, wrap8, max_r, max_l, min_r, min_l] | (with_reducible refine zM (fun hb => ?_) (fun hb => ?_) <;> (try simp only [hb])) | (with_reducible refine And.intro (by first | omega | (simp; done) | (simp; omega)) ?_) | simp (maxSteps := 10000000) (implicitDefEqProofs := false) only [go_sem, Nat.reduceEqDiff, Nat.reduceBEq, ↓reduceIte, Nat.reduceAdd, Nat.reduceMul, Nat.reduceSub, Nat.reduceLeDiff, Nat.reduceLT, reduceCtorEq, Int.reduceLE, Int.reduceLT, Int.reduceToNat, Int.reduceBEq, ls, d0, z1, z2, z3, n1, n2, n3, lN, lk, List.length_map, List.length_replicate, List.drop_replicate, List.append_nil] | fail))
end
end Go.Proofs.Ytkpkiefebipbbaa
/- Signatures held up: the walk. -/
namespace Go.Proofs.Ytkpkiefebipbbaa
open Go.RowKit
section
variable {G : Nat → Option (List D)}
theorem ever_bad1 {pub text sig : List UInt8} (h : pub.length ≠ 32 ∨ sig.length ≠ 64) :
    Spec Try.prog G 7 [.c (bytesD pub), .c (bytesD text), .c (bytesD sig)] (.one (.c (.v (.bool false)))) := by
  by_cases hp : pub.length = 32
  · have d0 : (((32 : Nat) : Int) == 32) = true := rfl
    have d1 : (sig.length == 64) = false := by simpa [hp] using h
    refine spec_of Try.func7 rfl rfl rfl (by kernel_rfl) rfl fun K => ?_
    (repeat' (first | with_reducible (first | refine zA fun Kn hK => ?_ | refine zB (by kernel_rfl) ?_ | refine zC (by kernel_rfl) (by kernel_rfl) ?_ | refine zD ?_ | refine zN ?_ | refine zF ?_ | refine zG ?_ | refine zH ?_ | (refine hK _ ?_; clear hK Kn) | (clear hK Kn; refine hK _ ?_; clear hK Kn) | (clear hK Kn; clear hK Kn; refine hK _ ?_; clear hK Kn)) | fail | with_reducible (first | refine zI ?_ | refine zJ ?_ | refine zK ?_ ?_ | refine zL ?_ ?_ | refine And.intro (show logOk _ _ = true by kernel_rfl) ?_) | simp (maxSteps := 10000000) (disch := omega) only [wrap_id, wrap8, max_r, max_l, min_r, min_l] | (with_reducible refine zM (fun hb => ?_) (fun hb => ?_) <;> (try simp only [hb])) | (with_reducible refine And.intro (by first | omega | (simp; done) | (simp; omega)) ?_) | simp (maxSteps := 10000000) (implicitDefEqProofs := false) only [go_sem, Nat.reduceEqDiff, Nat.reduceBEq, ↓reduceIte, Nat.reduceAdd, Nat.reduceMul, Nat.reduceSub, Nat.reduceLeDiff, Nat.reduceLT, reduceCtorEq, Int.reduceLE, Int.reduceLT, Int.reduceToNat, Int.reduceBEq, hp, d0, d1, int_beqL, List.length_map] | fail))
  · have d0 : (pub.length == 32) = false := by simpa using hp
    refine spec_of Try.func7 rfl rfl rfl (by kernel_rfl) rfl fun K => ?_
    (repeat' (first | with_reducible (first | refine zA fun Kn hK => ?_ | refine zB (by kernel_rfl) ?_ | refine zC (by kernel_rfl) (by kernel_rfl) ?_ | refine zD ?_ | refine zN ?_ | refine zF ?_ | refine zG ?_ | refine zH ?_ | (refine hK _ ?_; clear hK Kn) | (clear hK Kn; refine hK _ ?_; clear hK Kn) | (clear hK Kn; clear hK Kn; refine hK _ ?_; clear hK Kn)) | fail | with_reducible (first | refine zI ?_ | refine zJ ?_ | refine zK ?_ ?_ | refine zL ?_ ?_ | refine And.intro (show logOk _ _ = true by kernel_rfl) ?_) | simp (maxSteps := 10000000) (disch := omega) only [wrap_id, wrap8, max_r, max_l, min_r, min_l] | (with_reducible refine zM (fun hb => ?_) (fun hb => ?_) <;> (try simp only [hb])) | (with_reducible refine And.intro (by first | omega | (simp; done) | (simp; omega)) ?_) | simp (maxSteps := 10000000) (implicitDefEqProofs := false) only [go_sem, Nat.reduceEqDiff, Nat.reduceBEq, ↓reduceIte, Nat.reduceAdd, Nat.reduceMul, Nat.reduceSub, Nat.reduceLeDiff, Nat.reduceLT, reduceCtorEq, Int.reduceLE, Int.reduceLT, Int.reduceToNat, Int.reduceBEq, d0, int_beqL, List.length_map] | fail))
theorem ever_bad2 {pub text sig : List UInt8} (lp : pub.length = 32) (ls : sig.length = 64) (h1 : Spec Try.prog G 13 [.c (.sl 32 ((sig.drop 32).map bD))] (.one (.c (.v (.bool false))))) :
    Spec Try.prog G 7 [.c (bytesD pub), .c (bytesD text), .c (bytesD sig)] (.one (.c (.v (.bool false)))) := by
  have d0 : (((32 : Nat) : Int) == 32) = true := rfl
  have d1 : (((64 : Nat) : Int) == 64) = true := rfl
  have hd : (sig.map bD).drop 32 = (sig.drop 32).map bD := by rw [List.map_drop]
  have ht : ((sig.drop 32).map bD).take 32 = (sig.drop 32).map bD := List.take_of_length_le (by rw [List.length_map, List.length_drop, ls]; omega)
  generalize sig.drop 32 = S at *
  refine spec_of Try.func7 rfl rfl rfl (by kernel_rfl) rfl fun K => ?_
  (repeat' (first | with_reducible (first | refine zA fun Kn hK => ?_ | refine zB (by kernel_rfl) ?_ | refine zC (by kernel_rfl) (by kernel_rfl) ?_ | refine zD ?_ | refine zN ?_ | refine zF ?_ | refine zG ?_ | refine zH ?_ | (refine hK _ ?_; clear hK Kn) | (clear hK Kn; refine hK _ ?_; clear hK Kn) | (clear hK Kn; clear hK Kn; refine hK _ ?_; clear hK Kn)) | (refine ⟨_, h1, ?_⟩) | with_reducible (first | refine zI ?_ | refine zJ ?_ | refine zK ?_ ?_ | refine zL ?_ ?_ | refine And.intro (show logOk _ _ = true by kernel_rfl) ?_) | simp (maxSteps := 10000000) (disch := omega) only [wrap_id, wrap8, max_r, max_l, min_r, min_l] | (with_reducible refine zM (fun hb => ?_) (fun hb => ?_) <;> (try simp only [hb])) | (with_reducible refine And.intro (by first | omega | (simp; done) | (simp; omega)) ?_) | simp (maxSteps := 10000000) (implicitDefEqProofs := false) only [go_sem, Nat.reduceEqDiff, Nat.reduceBEq, ↓reduceIte, Nat.reduceAdd, Nat.reduceMul, Nat.reduceSub, Nat.reduceLeDiff, Nat.reduceLT, reduceCtorEq, Int.reduceLE, Int.reduceLT, Int.reduceToNat, Int.reduceBEq, lp, ls, d0, d1, hd, ht, List.length_map] | fail))
theorem ever_w {pub text sig k : List UInt8} {PA PR B Q1 Q2 Q3 : List D} {e1 e2 : Int} {o1 o2 sm : Bool} (lp : pub.length = 32) (ls : sig.length = 64) (lk : k.length = 32) (lA : PA.length = 20) (lR : PR.length = 20) (lB : B.length = 20)
    (he1 : (e1 == 0) = o1) (he2 : (e2 == 0) = o2)
    (h1 : Spec Try.prog G 13 [.c (.sl 32 ((sig.drop 32).map bD))] (.one (.c (.v (.bool true)))))
    (h2 : Spec Try.prog G 14 [.c (.sl 32 (pub.map bD))] (.many [.g PA, .c (.v (.int .i64 e1))]))
    (h3 : Spec Try.prog G 14 [.c (.sl 32 ((sig.take 32).map bD))] (.many [.g PR, .c (.v (.int .i64 e2))]))
    (h4 : o1 = true → o2 = true → Spec Try.prog G 15 [.c (.sl 3 [.sl 32 ((sig.take 32).map bD), .sl 32 (pub.map bD), bytesD text])] (.one (.g (k.map bD))))
    (h5 : Spec Try.prog G 16 [] (.one (.g B)))
    (h6 : o1 = true → o2 = true → Spec Try.prog G 17 [.g B, .g ((sig.drop 32).map bD)] (.one (.g Q1)))
    (h7 : o1 = true → o2 = true → Spec Try.prog G 17 [.g PA, .g (k.map bD)] (.one (.g Q2)))
    (h8 : o1 = true → o2 = true → Spec Try.prog G 19 [.g PR, .g Q2] (.one (.g Q3)))
    (h9 : o1 = true → o2 = true → Spec Try.prog G 18 [.g Q1, .g Q3] (.one (.c (.v (.bool sm))))) :
    Spec Try.prog G 7 [.c (bytesD pub), .c (bytesD text), .c (bytesD sig)] (.one (.c (.v (.bool (o1 && (o2 && sm)))))) := by
  have d0 : (((32 : Nat) : Int) == 32) = true := rfl
  have d1 : (((64 : Nat) : Int) == 64) = true := rfl
  have hd : (sig.map bD).drop 32 = (sig.drop 32).map bD := by rw [List.map_drop]
  have ht : ((sig.drop 32).map bD).take 32 = (sig.drop 32).map bD := List.take_of_length_le (by rw [List.length_map, List.length_drop, ls]; omega)
  have hu : (sig.map bD).take 32 = (sig.take 32).map bD := by rw [List.map_take]
  have lt : (sig.take 32).length = 32 := by rw [List.length_take, ls]; rfl
  have ld : (sig.drop 32).length = 32 := by rw [List.length_drop, ls]
  obtain ⟨a1, a2, a3⟩ := cd_facts lA
  obtain ⟨r1, r2, r3⟩ := cd_facts lR
  obtain ⟨b1, b2, b3⟩ := cd_facts lB
  obtain ⟨c1, c2, c3⟩ := cd_facts (l := k.map bD) (n := 32) (by rw [List.length_map, lk])
  obtain ⟨t1, t2, t3⟩ := cd_facts (l := (sig.drop 32).map bD) (n := 32) (by rw [List.length_map, ld])
  unfold bytesD at h4
  generalize sig.drop 32 = S at *
  generalize sig.take 32 = R at *
  cases o1 with
  | false =>
    rw [Bool.false_and]
    refine spec_of Try.func7 rfl rfl rfl (by kernel_rfl) rfl fun K => ?_
    (repeat' (first | with_reducible (first | refine zA fun Kn hK => ?_ | refine zB (by kernel_rfl) ?_ | refine zC (by kernel_rfl) (by kernel_rfl) ?_ | refine zD ?_ | refine zN ?_ | refine zF ?_ | refine zG ?_ | refine zH ?_ | (refine hK _ ?_; clear hK Kn) | (clear hK Kn; refine hK _ ?_; clear hK Kn) | (clear hK Kn; clear hK Kn; refine hK _ ?_; clear hK Kn)) | (refine ⟨_, h1, ?_⟩) | (refine ⟨_, h2, ?_⟩) | (refine ⟨_, h3, ?_⟩) | with_reducible (first | refine zI ?_ | refine zJ ?_ | refine zK ?_ ?_ | refine zL ?_ ?_ | refine And.intro (show logOk _ _ = true by kernel_rfl) ?_) | simp (maxSteps := 10000000) (disch := omega) only [wrap_id, wrap8, max_r, max_l, min_r, min_l] | (with_reducible refine zM (fun hb => ?_) (fun hb => ?_) <;> (try simp only [hb])) | (with_reducible refine And.intro (by first | omega | (simp; done) | (simp; omega)) ?_) | simp (maxSteps := 10000000) (implicitDefEqProofs := false) only [go_sem, Nat.reduceEqDiff, Nat.reduceBEq, ↓reduceIte, Nat.reduceAdd, Nat.reduceMul, Nat.reduceSub, Nat.reduceLeDiff, Nat.reduceLT, reduceCtorEq, Int.reduceLE, Int.reduceLT, Int.reduceToNat, Int.reduceBEq, lp, ls, d0, d1, hd, ht, hu, lt, ld, lA, lR, lk, lB, Nat.sub_self, List.replicate_zero, a1, a2, a3, r1, r2, r3, he1, Bool.not_false, List.length_map, List.length_replicate, List.drop_replicate, List.append_nil] | fail))
  | true =>
    cases o2 with
    | false =>
      rw [Bool.true_and, Bool.false_and]
      refine spec_of Try.func7 rfl rfl rfl (by kernel_rfl) rfl fun K => ?_
      (repeat' (first | with_reducible (first | refine zA fun Kn hK => ?_ | refine zB (by kernel_rfl) ?_ | refine zC (by kernel_rfl) (by kernel_rfl) ?_ | refine zD ?_ | refine zN ?_ | refine zF ?_ | refine zG ?_ | refine zH ?_ | (refine hK _ ?_; clear hK Kn) | (clear hK Kn; refine hK _ ?_; clear hK Kn) | (clear hK Kn; clear hK Kn; refine hK _ ?_; clear hK Kn)) | (refine ⟨_, h1, ?_⟩) | (refine ⟨_, h2, ?_⟩) | (refine ⟨_, h3, ?_⟩) | with_reducible (first | refine zI ?_ | refine zJ ?_ | refine zK ?_ ?_ | refine zL ?_ ?_ | refine And.intro (show logOk _ _ = true by kernel_rfl) ?_) | simp (maxSteps := 10000000) (disch := omega) only [wrap_id, wrap8, max_r, max_l, min_r, min_l] | (with_reducible refine zM (fun hb => ?_) (fun hb => ?_) <;> (try simp only [hb])) | (with_reducible refine And.intro (by first | omega | (simp; done) | (simp; omega)) ?_) | simp (maxSteps := 10000000) (implicitDefEqProofs := false) only [go_sem, Nat.reduceEqDiff, Nat.reduceBEq, ↓reduceIte, Nat.reduceAdd, Nat.reduceMul, Nat.reduceSub, Nat.reduceLeDiff, Nat.reduceLT, reduceCtorEq, Int.reduceLE, Int.reduceLT, Int.reduceToNat, Int.reduceBEq, lp, ls, d0, d1, hd, ht, hu, lt, ld, lA, lR, lk, lB, Nat.sub_self, List.replicate_zero, a1, a2, a3, r1, r2, r3, he1, he2, Bool.not_false, Bool.not_true, List.length_map, List.length_replicate, List.drop_replicate, List.append_nil] | fail))
    | true =>
      have h4 := h4 rfl rfl
      have h6 := h6 rfl rfl
      have h7 := h7 rfl rfl
      have h8 := h8 rfl rfl
      have h9 := h9 rfl rfl
      rw [Bool.true_and, Bool.true_and]
      refine spec_of Try.func7 rfl rfl rfl (by kernel_rfl) rfl fun K => ?_
      (repeat' (first | with_reducible (first | refine zA fun Kn hK => ?_ | refine zB (by kernel_rfl) ?_ | refine zC (by kernel_rfl) (by kernel_rfl) ?_ | refine zD ?_ | refine zN ?_ | refine zF ?_ | refine zG ?_ | refine zH ?_ | (refine hK _ ?_; clear hK Kn) | (clear hK Kn; refine hK _ ?_; clear hK Kn) | (clear hK Kn; clear hK Kn; refine hK _ ?_; clear hK Kn)) | (refine ⟨none, ?_⟩) | (refine ⟨_, h1, ?_⟩) | (refine ⟨_, h2, ?_⟩) | (refine ⟨_, h3, ?_⟩) | (refine ⟨_, h4, ?_⟩) | (refine ⟨_, h5, ?_⟩) | (refine ⟨_, h6, ?_⟩) | (refine ⟨_, h7, ?_⟩) | (refine ⟨_, h8, ?_⟩) | (refine ⟨_, h9, ?_⟩) | with_reducible (first | refine zI ?_ | refine zJ ?_ | refine zK ?_ ?_ | refine zL ?_ ?_ | refine And.intro (show logOk _ _ = true by kernel_rfl) ?_) | simp (maxSteps := 10000000) (disch := omega) only [wrap_id, wrap8, max_r, max_l, min_r, min_l] | (with_reducible refine zM (fun hb => ?_) (fun hb => ?_) <;> (try simp only [hb])) | (with_reducible refine And.intro (by first | omega | (simp; done) | (simp; omega)) ?_) | simp (maxSteps := 10000000) (implicitDefEqProofs := false) only [go_sem, Nat.reduceEqDiff, Nat.reduceBEq, ↓reduceIte, Nat.reduceAdd, Nat.reduceMul, Nat.reduceSub, Nat.reduceLeDiff, Nat.reduceLT, reduceCtorEq, Int.reduceLE, Int.reduceLT, Int.reduceToNat, Int.reduceBEq, lp, ls, d0, d1, hd, ht, hu, lt, ld, lA, lR, lk, lB, Nat.sub_self, List.replicate_zero, a1, a2, a3, r1, r2, r3, b1, b2, b3, c1, c2, c3, t1, t2, t3, he1, he2, Bool.not_false, Bool.not_true, List.length_map, List.length_replicate, List.drop_replicate, List.append_nil] | fail))
end
end Go.Proofs.Ytkpkiefebipbbaa
/- Signatures held up, by the document: the walk. -/
namespace Go.Proofs.Ytkpkiefebipbbaa
open Go.RowKit
theorem ex_bytesN {n : Nat} {y : List UInt8} {p : List UInt8 → Prop} (hl : y.length = n) (h : p y) : ∃ x : List UInt8, (x.length = n ∧ y.map bD = x.map bD) ∧ p x := ⟨y, ⟨hl, rfl⟩, h⟩
section
variable {G : Nat → Option (List D)}
theorem rver_bad1 {pub text sig : List UInt8} (h : pub.length ≠ 32 ∨ sig.length ≠ 64) :
    Spec Try.prog G 8 [.c (bytesD pub), .c (bytesD text), .c (bytesD sig)] (.one (.c (.v (.bool false)))) := by
  by_cases hp : pub.length = 32
  · have d0 : (((32 : Nat) : Int) == 32) = true := rfl
    have d1 : (sig.length == 64) = false := by simpa [hp] using h
    refine spec_of Try.func8 rfl rfl rfl (by kernel_rfl) rfl fun K => ?_
    (repeat' (first | with_reducible (first | refine zA fun Kn hK => ?_ | refine zB (by kernel_rfl) ?_ | refine zC (by kernel_rfl) (by kernel_rfl) ?_ | refine zD ?_ | refine zN ?_ | refine zF ?_ | refine zG ?_ | refine zH ?_ | (refine hK _ ?_; clear hK Kn) | (clear hK Kn; refine hK _ ?_; clear hK Kn) | (clear hK Kn; clear hK Kn; refine hK _ ?_; clear hK Kn)) | fail | with_reducible (first | refine zI ?_ | refine zJ ?_ | refine zK ?_ ?_ | refine zL ?_ ?_ | refine And.intro (show logOk _ _ = true by kernel_rfl) ?_) | simp (maxSteps := 10000000) (disch := omega) only [wrap_id, wrap8, max_r, max_l, min_r, min_l] | (with_reducible refine zM (fun hb => ?_) (fun hb => ?_) <;> (try simp only [hb])) | (with_reducible refine And.intro (by first | omega | (simp; done) | (simp; omega)) ?_) | simp (maxSteps := 10000000) (implicitDefEqProofs := false) only [go_sem, Nat.reduceEqDiff, Nat.reduceBEq, ↓reduceIte, Nat.reduceAdd, Nat.reduceMul, Nat.reduceSub, Nat.reduceLeDiff, Nat.reduceLT, reduceCtorEq, Int.reduceLE, Int.reduceLT, Int.reduceToNat, Int.reduceBEq, hp, d0, d1, int_beqL, List.length_map] | fail))
  · have d0 : (pub.length == 32) = false := by simpa using hp
    refine spec_of Try.func8 rfl rfl rfl (by kernel_rfl) rfl fun K => ?_
    (repeat' (first | with_reducible (first | refine zA fun Kn hK => ?_ | refine zB (by kernel_rfl) ?_ | refine zC (by kernel_rfl) (by kernel_rfl) ?_ | refine zD ?_ | refine zN ?_ | refine zF ?_ | refine zG ?_ | refine zH ?_ | (refine hK _ ?_; clear hK Kn) | (clear hK Kn; refine hK _ ?_; clear hK Kn) | (clear hK Kn; clear hK Kn; refine hK _ ?_; clear hK Kn)) | fail | with_reducible (first | refine zI ?_ | refine zJ ?_ | refine zK ?_ ?_ | refine zL ?_ ?_ | refine And.intro (show logOk _ _ = true by kernel_rfl) ?_) | simp (maxSteps := 10000000) (disch := omega) only [wrap_id, wrap8, max_r, max_l, min_r, min_l] | (with_reducible refine zM (fun hb => ?_) (fun hb => ?_) <;> (try simp only [hb])) | (with_reducible refine And.intro (by first | omega | (simp; done) | (simp; omega)) ?_) | simp (maxSteps := 10000000) (implicitDefEqProofs := false) only [go_sem, Nat.reduceEqDiff, Nat.reduceBEq, ↓reduceIte, Nat.reduceAdd, Nat.reduceMul, Nat.reduceSub, Nat.reduceLeDiff, Nat.reduceLT, reduceCtorEq, Int.reduceLE, Int.reduceLT, Int.reduceToNat, Int.reduceBEq, d0, int_beqL, List.length_map] | fail))
theorem rver_bad2 {pub text sig : List UInt8} (lp : pub.length = 32) (ls : sig.length = 64) (h1 : Spec Try.prog G 20 [.c (.sl 32 ((sig.drop 32).map bD))] (.one (.c (.v (.bool false))))) :
    Spec Try.prog G 8 [.c (bytesD pub), .c (bytesD text), .c (bytesD sig)] (.one (.c (.v (.bool false)))) := by
  have d0 : (((32 : Nat) : Int) == 32) = true := rfl
  have d1 : (((64 : Nat) : Int) == 64) = true := rfl
  have hd : (sig.map bD).drop 32 = (sig.drop 32).map bD := by rw [List.map_drop]
  have ht : ((sig.drop 32).map bD).take 32 = (sig.drop 32).map bD := List.take_of_length_le (by rw [List.length_map, List.length_drop, ls]; omega)
  generalize sig.drop 32 = S at *
  refine spec_of Try.func8 rfl rfl rfl (by kernel_rfl) rfl fun K => ?_
  (repeat' (first | with_reducible (first | refine zA fun Kn hK => ?_ | refine zB (by kernel_rfl) ?_ | refine zC (by kernel_rfl) (by kernel_rfl) ?_ | refine zD ?_ | refine zN ?_ | refine zF ?_ | refine zG ?_ | refine zH ?_ | (refine hK _ ?_; clear hK Kn) | (clear hK Kn; refine hK _ ?_; clear hK Kn) | (clear hK Kn; clear hK Kn; refine hK _ ?_; clear hK Kn)) | (refine ⟨_, h1, ?_⟩) | with_reducible (first | refine zI ?_ | refine zJ ?_ | refine zK ?_ ?_ | refine zL ?_ ?_ | refine And.intro (show logOk _ _ = true by kernel_rfl) ?_) | simp (maxSteps := 10000000) (disch := omega) only [wrap_id, wrap8, max_r, max_l, min_r, min_l] | (with_reducible refine zM (fun hb => ?_) (fun hb => ?_) <;> (try simp only [hb])) | (with_reducible refine And.intro (by first | omega | (simp; done) | (simp; omega)) ?_) | simp (maxSteps := 10000000) (implicitDefEqProofs := false) only [go_sem, Nat.reduceEqDiff, Nat.reduceBEq, ↓reduceIte, Nat.reduceAdd, Nat.reduceMul, Nat.reduceSub, Nat.reduceLeDiff, Nat.reduceLT, reduceCtorEq, Int.reduceLE, Int.reduceLT, Int.reduceToNat, Int.reduceBEq, lp, ls, d0, d1, hd, ht, List.length_map] | fail))
theorem rver_w {pub text sig k x y : List UInt8} {PA PR B Q1 Q2 Q3 : List D} {o1 o2 : Bool} (lp : pub.length = 32) (ls : sig.length = 64) (lk : k.length = 32) (lA : PA.length = 48) (lR : PR.length = 48) (lB : B.length = 48) (l1 : Q1.length = 48) (l3 : Q3.length = 48) (lx : x.length = 32) (ly : y.length = 32)
    (h1 : Spec Try.prog G 20 [.c (.sl 32 ((sig.drop 32).map bD))] (.one (.c (.v (.bool true)))))
    (h2 : Spec Try.prog G 21 [.c (.sl 32 (pub.map bD))] (.many [.g PA, .c (.v (.bool o1))]))
    (h3 : Spec Try.prog G 21 [.c (.sl 32 ((sig.take 32).map bD))] (.many [.g PR, .c (.v (.bool o2))]))
    (h4 : o1 = true → o2 = true → Spec Try.prog G 22 [.c (.sl 3 [.sl 32 ((sig.take 32).map bD), .sl 32 (pub.map bD), bytesD text])] (.one (.c (.sl 32 (k.map bD)))))
    (h5 : Spec Try.prog G 23 [] (.one (.g B)))
    (h6 : o1 = true → o2 = true → Spec Try.prog G 24 [.g B, .c (.sl 32 ((sig.drop 32).map bD))] (.one (.g Q1)))
    (h7 : o1 = true → o2 = true → Spec Try.prog G 24 [.g PA, .c (.sl 32 (k.map bD))] (.one (.g Q2)))
    (h8 : o1 = true → o2 = true → Spec Try.prog G 25 [.g PR, .g Q2] (.one (.g Q3)))
    (h9 : o1 = true → o2 = true → Spec Try.prog G 26 [.g Q1] (.one (.c (.sl 32 (x.map bD)))))
    (h10 : o1 = true → o2 = true → Spec Try.prog G 26 [.g Q3] (.one (.c (.sl 32 (y.map bD))))) :
    Spec Try.prog G 8 [.c (bytesD pub), .c (bytesD text), .c (bytesD sig)] (.one (.c (.v (.bool (o1 && (o2 && (x == y))))))) := by
  have d0 : (((32 : Nat) : Int) == 32) = true := rfl
  have d1 : (((64 : Nat) : Int) == 64) = true := rfl
  have hd : (sig.map bD).drop 32 = (sig.drop 32).map bD := by rw [List.map_drop]
  have ht : ((sig.drop 32).map bD).take 32 = (sig.drop 32).map bD := List.take_of_length_le (by rw [List.length_map, List.length_drop, ls]; omega)
  have hu : (sig.map bD).take 32 = (sig.take 32).map bD := by rw [List.map_take]
  have lt : (sig.take 32).length = 32 := by rw [List.length_take, ls]; rfl
  have ld : (sig.drop 32).length = 32 := by rw [List.length_drop, ls]
  obtain ⟨a1, a2, a3⟩ := cd_facts lA
  obtain ⟨r1, r2, r3⟩ := cd_facts lR
  obtain ⟨b1, b2, b3⟩ := cd_facts lB
  obtain ⟨q1, q2, q3⟩ := cd_facts l1
  obtain ⟨t1, t2, t3⟩ := cd_facts l3
  unfold bytesD at h4
  generalize sig.drop 32 = S at *
  generalize sig.take 32 = R at *
  cases o1 with
  | false =>
    rw [Bool.false_and]
    refine spec_of Try.func8 rfl rfl rfl (by kernel_rfl) rfl fun K => ?_
    (repeat' (first | with_reducible (first | refine zA fun Kn hK => ?_ | refine zB (by kernel_rfl) ?_ | refine zC (by kernel_rfl) (by kernel_rfl) ?_ | refine zD ?_ | refine zN ?_ | refine zF ?_ | refine zG ?_ | refine zH ?_ | (refine hK _ ?_; clear hK Kn) | (clear hK Kn; refine hK _ ?_; clear hK Kn) | (clear hK Kn; clear hK Kn; refine hK _ ?_; clear hK Kn)) | (refine ⟨_, h1, ?_⟩) | (refine ⟨_, h2, ?_⟩) | (refine ⟨_, h3, ?_⟩) | with_reducible (first | refine zI ?_ | refine zJ ?_ | refine zK ?_ ?_ | refine zL ?_ ?_ | refine And.intro (show logOk _ _ = true by kernel_rfl) ?_) | simp (maxSteps := 10000000) (disch := omega) only [wrap_id, wrap8, max_r, max_l, min_r, min_l] | (with_reducible refine zM (fun hb => ?_) (fun hb => ?_) <;> (try simp only [hb])) | (with_reducible refine And.intro (by first | omega | (simp; done) | (simp; omega)) ?_) | simp (maxSteps := 10000000) (implicitDefEqProofs := false) only [go_sem, Nat.reduceEqDiff, Nat.reduceBEq, ↓reduceIte, Nat.reduceAdd, Nat.reduceMul, Nat.reduceSub, Nat.reduceLeDiff, Nat.reduceLT, reduceCtorEq, Int.reduceLE, Int.reduceLT, Int.reduceToNat, Int.reduceBEq, lp, ls, d0, d1, hd, ht, hu, lt, ld, lA, lR, a1, a2, a3, r1, r2, r3, Bool.not_false, List.length_map, List.length_replicate, List.drop_replicate, List.append_nil] | fail))
  | true =>
    cases o2 with
    | false =>
      rw [Bool.true_and, Bool.false_and]
      refine spec_of Try.func8 rfl rfl rfl (by kernel_rfl) rfl fun K => ?_
      (repeat' (first | with_reducible (first | refine zA fun Kn hK => ?_ | refine zB (by kernel_rfl) ?_ | refine zC (by kernel_rfl) (by kernel_rfl) ?_ | refine zD ?_ | refine zN ?_ | refine zF ?_ | refine zG ?_ | refine zH ?_ | (refine hK _ ?_; clear hK Kn) | (clear hK Kn; refine hK _ ?_; clear hK Kn) | (clear hK Kn; clear hK Kn; refine hK _ ?_; clear hK Kn)) | (refine ⟨_, h1, ?_⟩) | (refine ⟨_, h2, ?_⟩) | (refine ⟨_, h3, ?_⟩) | with_reducible (first | refine zI ?_ | refine zJ ?_ | refine zK ?_ ?_ | refine zL ?_ ?_ | refine And.intro (show logOk _ _ = true by kernel_rfl) ?_) | simp (maxSteps := 10000000) (disch := omega) only [wrap_id, wrap8, max_r, max_l, min_r, min_l] | (with_reducible refine zM (fun hb => ?_) (fun hb => ?_) <;> (try simp only [hb])) | (with_reducible refine And.intro (by first | omega | (simp; done) | (simp; omega)) ?_) | simp (maxSteps := 10000000) (implicitDefEqProofs := false) only [go_sem, Nat.reduceEqDiff, Nat.reduceBEq, ↓reduceIte, Nat.reduceAdd, Nat.reduceMul, Nat.reduceSub, Nat.reduceLeDiff, Nat.reduceLT, reduceCtorEq, Int.reduceLE, Int.reduceLT, Int.reduceToNat, Int.reduceBEq, lp, ls, d0, d1, hd, ht, hu, lt, ld, lA, lR, a1, a2, a3, r1, r2, r3, Bool.not_false, Bool.not_true, List.length_map, List.length_replicate, List.drop_replicate, List.append_nil] | fail))
    | true =>
      have h4 := h4 rfl rfl
      have h6 := h6 rfl rfl
      have h7 := h7 rfl rfl
      have h8 := h8 rfl rfl
      have h9 := h9 rfl rfl
      have h10 := h10 rfl rfl
      rw [Bool.true_and, Bool.true_and]
      refine spec_of Try.func8 rfl rfl rfl (by kernel_rfl) rfl fun K => ?_
      (repeat' (first | with_reducible (first | refine zA fun Kn hK => ?_ | refine zB (by kernel_rfl) ?_ | refine zC (by kernel_rfl) (by kernel_rfl) ?_ | refine zD ?_ | refine zN ?_ | refine zF ?_ | refine zG ?_ | refine zH ?_ | (refine hK _ ?_; clear hK Kn) | (clear hK Kn; refine hK _ ?_; clear hK Kn) | (clear hK Kn; clear hK Kn; refine hK _ ?_; clear hK Kn)) | (refine ⟨none, ?_⟩) | (refine ⟨_, h1, ?_⟩) | (refine ⟨_, h2, ?_⟩) | (refine ⟨_, h3, ?_⟩) | (refine ⟨_, h4, ?_⟩) | (refine ⟨_, h5, ?_⟩) | (refine ⟨_, h6, ?_⟩) | (refine ⟨_, h7, ?_⟩) | (refine ⟨_, h8, ?_⟩) | (refine ⟨_, h9, ?_⟩) | (refine ⟨_, h10, ?_⟩) | (with_reducible refine ex_bytesN lx ?_) | (with_reducible refine ex_bytesN ly ?_) | with_reducible (first | refine zI ?_ | refine zJ ?_ | refine zK ?_ ?_ | refine zL ?_ ?_ | refine And.intro (show logOk _ _ = true by kernel_rfl) ?_) | simp (maxSteps := 10000000) (disch := omega) only [wrap_id, wrap8, max_r, max_l, min_r, min_l] | (with_reducible refine zM (fun hb => ?_) (fun hb => ?_) <;> (try simp only [hb])) | (with_reducible refine And.intro (by first | omega | (simp; done) | (simp; omega)) ?_) | simp (maxSteps := 10000000) (implicitDefEqProofs := false) only [go_sem, Nat.reduceEqDiff, Nat.reduceBEq, ↓reduceIte, Nat.reduceAdd, Nat.reduceMul, Nat.reduceSub, Nat.reduceLeDiff, Nat.reduceLT, reduceCtorEq, Int.reduceLE, Int.reduceLT, Int.reduceToNat, Int.reduceBEq, lp, ls, d0, d1, hd, ht, hu, lt, ld, lA, lR, lk, lB, l1, l3, lx, ly, Nat.sub_self, List.replicate_zero, a1, a2, a3, r1, r2, r3, b1, b2, b3, q1, q2, q3, t1, t2, t3, Bool.not_false, Bool.not_true, List.length_map, List.length_replicate, List.drop_replicate, List.append_nil] | fail))
end
end Go.Proofs.Ytkpkiefebipbbaa
/- The sums' contracts, by data. -/
namespace Go.Proofs.Ytkpkiefebipbbaa
open Go.RowKit
theorem rd_of_sl {w : World} {S : Nat → Prop} {A : Option Addr} {n c : Nat} {xs : List UInt8} (h : Rep.u8.sl w S A n c xs) : RD w S (bytesD xs) (.slice A n c) := by
  obtain ⟨rfl, hnc, hc, hh⟩ := h
  by_cases h0 : 0 < xs.length
  · obtain ⟨b, o, rfl, hb, hr⟩ := hh h0
    refine .sl _ c b o _ (fun i => ((xs.map fun y => Value.int .u8 (y.toNat : Int))[i]?).getD undef) hnc hc hb (fun i x hx => ?_) fun i x hx => ?_
    all_goals
      rw [List.getElem?_map] at hx
      cases hl : xs[i]? with
      | none => rw [hl] at hx; cases hx
      | some y =>
        rw [hl] at hx
        have hx : some (bD y) = some x := hx
        injection hx with hx
        subst hx
        have e : (xs.map fun y => Value.int .u8 (y.toNat : Int))[i]? = some (.int .u8 (y.toNat : Int)) := by simp [hl]
        rw [e]
        first
          | exact .v _ rfl
          | (obtain ⟨es, he, hcc⟩ := hr i y hl
             have he : es = [.int .u8 (y.toNat : Int)] := he
             subst he
             have := hcc 0 _ rfl
             simpa [Rep.u8] using this)
  · have : xs = [] := List.eq_nil_of_length_eq_zero (by omega)
    subst this
    exact .nil A c hc
theorem rows_sl {w : World} {S : Nat → Prop} {ls : List (List UInt8)} {u : Value} (h : RD w S (.sl ls.length (ls.map bytesD)) u) : ∃ A c, u = .slice A ls.length c ∧ Rep.u8.slice.sl w S A ls.length c ls := by
  obtain ⟨A, c, rfl, hn, hcm, hh⟩ := rd_sl h
  refine ⟨A, c, rfl, rfl, hn, hcm, fun hp => ?_⟩
  rcases hh with ⟨h0, _⟩ | ⟨bk, o, us, rfl, hb', h1, h2⟩
  · omega
  · refine ⟨bk, o, rfl, hb', fun i x hx => ?_⟩
    have hi : (ls.map bytesD)[i]? = some (bytesD x) := by rw [List.getElem?_map, hx]; rfl
    obtain ⟨B, k, hB, hs⟩ := bytes_sl (h2 i _ hi) rfl
    refine ⟨[.slice B x.length k], ⟨B, _, k, rfl, hs⟩, fun j v hv => ?_⟩
    cases j with
    | succ j => simp at hv
    | zero =>
      simp at hv
      subst hv
      have := h1 i _ hi
      rw [hB] at this
      simpa [Rep.slice] using this
theorem of_m {G : Nat → Option (List D)} (ls : List (List UInt8)) (hb : ls.flatten.length ≤ 1000000000) : Spec Try.prog G 43 [.c (.sl ls.length (ls.map bytesD))] (.one (.g ((shaL ls.flatten).map bD))) := by
  intro w S vs hS hT hA
  obtain ⟨hl, hc⟩ := hA
  match vs, hl with
  | [u], _ =>
    have hu : RD w S (.sl ls.length (ls.map bytesD)) u := hc 0 _ _ rfl rfl
    obtain ⟨A, c, rfl, hsl⟩ := rows_sl hu
    refine Calls.mono (of_c ls A ls.length c w (Rep.sl_more hsl hS) hb) ?_
    rintro e w1 ⟨rfl, hB1⟩
    generalize shaL ls.flatten = m at *
    refine ⟨⟨hB1.os, hB1.tape, hB1.output, hB1.size, fun k hk _ => hB1.block k hk⟩, _, rfl, ⟨m.map fun x => Value.int .u8 (x.toNat : Int), by simp [bcells], by simp, fun i x v hx hv => ?_⟩⟩
    simp only [List.getElem?_map] at hx hv
    cases hq : m[i]? with
    | none => rw [hq] at hx; cases hx
    | some y =>
      rw [hq] at hx hv
      simp at hx hv
      subst hx hv
      exact .v _ rfl
theorem own_spec {G : Nat → Option (List D)} {f : FuncId} {args : List DV} {m : List UInt8} (h : ∀ (w : World) (S : Nat → Prop) (vs : List Value), (∀ b, S b → b < w.heap.size) → DArgs w S args vs → Calls Try.prog f vs.toArray w (OwnPost w m)) : Spec Try.prog G f args (.one (.c (bytesD m))) := by
  intro w S vs hS hT hA
  refine Calls.mono (h w S vs hS hA) ?_
  rintro e w1 ⟨v, rfl, ho, hB1⟩
  obtain ⟨B, k, rfl, hsl⟩ := Rep.own_sl ho
  refine ⟨⟨hB1.os, hB1.tape, hB1.output, hB1.size, fun k hk _ => hB1.block k hk⟩, _, rfl, rd_of_sl (Rep.sl_more hsl fun b hb => ?_)⟩
  rcases hb with hb | hb
  · exact hb.elim
  · exact .inr (Rep.own_lt ho _ hb)
theorem refsum_m {G : Nat → Option (List D)} (b : List UInt8) (hb : b.length ≤ 1000000000) : Spec Try.prog G 53 [.c (bytesD b)] (.one (.c (bytesD (shaL b)))) := by
  refine own_spec fun w S vs hS hA => ?_
  obtain ⟨hl, hc⟩ := hA
  match vs, hl with
  | [u], _ =>
    obtain ⟨A, c, rfl, hs⟩ := bytes_sl (hc 0 _ _ rfl rfl) rfl
    have hr := refsum_c b A _ c S w hs hS hb
    rwa [ref_sum] at hr
theorem refjoin_m {G : Nat → Option (List D)} (ls : List (List UInt8)) (hb : ls.flatten.length ≤ 1000000000) : Spec Try.prog G 54 [.c (.sl ls.length (ls.map bytesD))] (.one (.c (bytesD ls.flatten))) := by
  refine own_spec fun w S vs hS hA => ?_
  obtain ⟨hl, hc⟩ := hA
  match vs, hl with
  | [u], _ =>
    have hu : RD w S (.sl ls.length (ls.map bytesD)) u := hc 0 _ _ rfl rfl
    obtain ⟨A, c, rfl, hsl⟩ := rows_sl hu
    exact join_c ls A ls.length c w (Rep.sl_more hsl hS) hb
end Go.Proofs.Ytkpkiefebipbbaa
/- Points by digits: their bytes, a row of one's own. -/
namespace Go.Proofs.Ytkpkiefebipbbaa
open Go.RowKit
section
variable {G : Nat → Option (List D)}
end
end Go.Proofs.Ytkpkiefebipbbaa
/- The document's keys and signatures: the walks. -/
namespace Go.Proofs.Ytkpkiefebipbbaa
open Go.RowKit
section
variable {G : Nat → Option (List D)}
theorem rrest_w {n : Nat} {ls : List D} {m h r : List UInt8} (hj : Spec Try.prog G 54 [.c (.sl n ls)] (.one (.c (bytesD m)))) (hs : Spec Try.prog G 53 [.c (bytesD m)] (.one (.c (bytesD h)))) (hr : Spec Try.prog G 48 [.c (bytesD h)] (.one (.c (bytesD r)))) :
    Spec Try.prog G 22 [.c (.sl n ls)] (.one (.c (bytesD r))) := by
  unfold bytesD at *
  refine spec_of Try.func22 rfl rfl rfl (by kernel_rfl) rfl fun K => ?_
  (repeat' (first | with_reducible (first | refine zA fun Kn hK => ?_ | refine zB (by kernel_rfl) ?_ | refine zC (by kernel_rfl) (by kernel_rfl) ?_ | refine zD ?_ | refine zN ?_ | refine zF ?_ | refine zG ?_ | refine zH ?_ | (refine hK _ ?_; clear hK Kn) | (clear hK Kn; refine hK _ ?_; clear hK Kn) | (clear hK Kn; clear hK Kn; refine hK _ ?_; clear hK Kn)) | (refine ⟨_, hj, ?_⟩) | (refine ⟨_, hs, ?_⟩) | (refine ⟨_, hr, ?_⟩) | with_reducible (first | refine zI ?_ | refine zJ ?_ | refine zK ?_ ?_ | refine zL ?_ ?_ | refine And.intro (show logOk _ _ = true by kernel_rfl) ?_) | simp (maxSteps := 10000000) (disch := omega) only [wrap_id, wrap8, max_r, max_l, min_r, min_l] | (with_reducible refine zM (fun hb => ?_) (fun hb => ?_) <;> (try simp only [hb])) | (with_reducible refine And.intro (by first | omega | (simp; done) | (simp; omega)) ?_) | simp (maxSteps := 10000000) (implicitDefEqProofs := false) only [go_sem, Nat.reduceEqDiff, Nat.reduceBEq, ↓reduceIte, Nat.reduceAdd, Nat.reduceMul, Nat.reduceSub, Nat.reduceLeDiff, Nat.reduceLT, reduceCtorEq, Int.reduceLE, Int.reduceLT, Int.reduceToNat, Int.reduceBEq, true_and] | fail))
end
end Go.Proofs.Ytkpkiefebipbbaa
/- Keys, signatures: what the program and the document answer. -/
namespace Go.Proofs.Ytkpkiefebipbbaa
open Go.RowKit
/-- The rest of rows' sum. -/
def kR (ls : List (List UInt8)) : Nat := leV (shaL ls.flatten) % lQ
def kB (ls : List (List UInt8)) : List UInt8 := leB (kR ls)
theorem lQ_pos : 0 < lQ := by decide +kernel
theorem lQ_lt : lQ < 2 ^ 256 := by decide +kernel
theorem kR_lt (ls : List (List UInt8)) : kR ls < lQ := Nat.mod_lt _ lQ_pos
theorem kB_len (ls : List (List UInt8)) : (kB ls).length = 32 := leB_len _
theorem kB_val (ls : List (List UInt8)) : leV (kB ls) = kR ls := leV_leB (Nat.lt_trans (kR_lt ls) lQ_lt)
def keyN (seed : List UInt8) : List UInt8 := secN (shaL seed)
theorem keyN_len (seed : List UInt8) : (keyN seed).length = 32 := secN_len (shaL_len seed)
def keyP (seed : List UInt8) : List UInt8 := (shaL seed).drop 32
def pubP (seed : List UInt8) : F × F := nmul (leV (keyN seed)) pB
def pubB (seed : List UInt8) : List UInt8 := encB (pubP seed)
def verP (pub text sig : List UInt8) : Bool := decide (nmul (leV (sig.drop 32)) pB = pAdd (decP (sig.take 32)) (nmul (kR [sig.take 32, pub, text]) (decP pub)))
def verB (pub text sig : List UInt8) : Bool := if pub.length = 32 ∧ sig.length = 64 ∧ leV (sig.drop 32) < lQ then decOk pub && (decOk (sig.take 32) && verP pub text sig) else false
section
variable {G : Nat → Option (List D)}
theorem erest_m (ls : List (List UInt8)) (hb : ls.flatten.length ≤ 1000000000) : Spec Try.prog G 15 [.c (.sl ls.length (ls.map bytesD))] (.one (.g ((kB ls).map bD))) := by
  have h1 := of_m (G := G) ls hb
  have h2 := reduce_m (G := G) (shaL ls.flatten) (by rw [shaL_len]; omega)
  unfold bytesD at h2
  rw [shaL_len] at h2
  exact erest_w (shaL_len _) (leB_len _) h1 h2
theorem rrest_m (ls : List (List UInt8)) (hb : ls.flatten.length ≤ 1000000000) : Spec Try.prog G 22 [.c (.sl ls.length (ls.map bytesD))] (.one (.c (bytesD (kB ls)))) :=
  rrest_w (refjoin_m ls hb) (refsum_m _ hb) (refreduce_m _ (by rw [shaL_len]; omega))
theorem esecret_m (seed : List UInt8) (hb : seed.length ≤ 1000000000) : Spec Try.prog G 27 [.c (bytesD seed)] (.many [.g ((keyN seed).map bD), .c (bytesD (keyP seed))]) := by
  have h := of_m (G := G) [seed] (by simpa using hb)
  rw [show [seed].flatten = seed by simp] at h
  exact secret_w (shaL_len seed) h
theorem epub_m (seed : List UInt8) (ls : seed.length = 32) : Spec Try.prog G 9 [.c (bytesD seed)] (.many [.g ((pubB seed).map bD), .c (.v (.int .i64 0))]) := by
  have h := esecret_m (G := G) seed (by omega)
  have hst := timesP_st PLB_st (keyN_len seed)
  have h3 := timesP_m (G := G) PLB_st (keyN_len seed)
  have h4 := bytesP_m (G := G) hst
  rw [bytesD, ls] at h
  exact epub_w ls (keyN_len seed) (encB_len _) h baseP_m h3 h4
theorem ever_m (pub text sig : List UInt8) (lp : pub.length ≤ 1000000) (lt : text.length ≤ 1000000) (lsg : sig.length ≤ 1000000) : Spec Try.prog G 7 [.c (bytesD pub), .c (bytesD text), .c (bytesD sig)] (.one (.c (.v (.bool (verB pub text sig))))) := by
  by_cases h : pub.length = 32 ∧ sig.length = 64
  · obtain ⟨hp, hs⟩ := h
    have ld : (sig.drop 32).length = 32 := by rw [List.length_drop, hs]
    have lk : (sig.take 32).length = 32 := by rw [List.length_take, hs]; rfl
    have h1 := mayS_m (G := G) (sig.drop 32) (by omega)
    unfold bytesD at h1
    rw [ld] at h1
    by_cases hl : leV (sig.drop 32) < lQ
    · rw [decide_eq_true ⟨rfl, hl⟩] at h1
      have hv : verB pub text sig = (decOk pub && (decOk (sig.take 32) && verP pub text sig)) := if_pos ⟨hp, hs, hl⟩
      rw [hv]
      obtain ⟨PA, e1, hA, h2, l2, z2⟩ : ∃ PA e1, ((e1 == (0 : Int)) = decOk pub) ∧ Spec Try.prog G 14 [.c (.sl 32 (pub.map bD))] (.many [.g PA, .c (.v (.int .i64 e1))]) ∧ PA.length = 20 ∧ (decOk pub = true → PA = (decPL pub).D) := by
        have h2 := getP_m (G := G) pub
        rw [bytesD, hp] at h2
        by_cases ho : decOk pub = true
        · rw [if_pos ho] at h2
          exact ⟨_, _, by rw [ho]; rfl, h2, PL.Ok.len (decPL_st ho).ok, fun _ => rfl⟩
        · rw [if_neg ho, decErr, if_pos hp] at h2
          exact ⟨_, _, by rw [Bool.not_eq_true] at ho; rw [ho]; rfl, h2, rfl, fun h => absurd h ho⟩
      obtain ⟨PR, e2, hR, h3, l3, z3⟩ : ∃ PR e2, ((e2 == (0 : Int)) = decOk (sig.take 32)) ∧ Spec Try.prog G 14 [.c (.sl 32 ((sig.take 32).map bD))] (.many [.g PR, .c (.v (.int .i64 e2))]) ∧ PR.length = 20 ∧ (decOk (sig.take 32) = true → PR = (decPL (sig.take 32)).D) := by
        have h2 := getP_m (G := G) (sig.take 32)
        rw [bytesD, lk] at h2
        by_cases ho : decOk (sig.take 32) = true
        · rw [if_pos ho] at h2
          exact ⟨_, _, by rw [ho]; rfl, h2, PL.Ok.len (decPL_st ho).ok, fun _ => rfl⟩
        · rw [if_neg ho, decErr, if_pos lk] at h2
          exact ⟨_, _, by rw [Bool.not_eq_true] at ho; rw [ho]; rfl, h2, rfl, fun h => absurd h ho⟩
      have h4 := erest_m (G := G) [sig.take 32, pub, text] (by simp [hp, hs]; omega)
      have e1 : bytesD (sig.take 32) = .sl 32 ((sig.take 32).map bD) := by rw [bytesD, lk]
      have e2 : bytesD pub = .sl 32 (pub.map bD) := by rw [bytesD, hp]
      simp only [List.map_cons, List.map_nil, List.length_cons, List.length_nil, e1, e2] at h4
      have h6 := timesP_m (G := G) PLB_st ld
      have hk := kB_len [sig.take 32, pub, text]
      refine ever_w (Q1 := (oP PLB (sig.drop 32) 64).D) (Q2 := (oP (decPL pub) (kB [sig.take 32, pub, text]) 64).D) (Q3 := (addPL (decPL (sig.take 32)) (oP (decPL pub) (kB [sig.take 32, pub, text]) 64)).D) hp hs hk l2 l3 (PL.Ok.len PLB_st.ok) hA hR h1 h2 h3 (fun _ _ => h4) baseP_m (fun _ _ => h6) (fun h1 h2 => ?_) (fun h1 h2 => ?_) (fun h1 h2 => ?_)
      · rw [z2 h1]
        exact timesP_m (decPL_st h1) hk
      · rw [z3 h2]
        exact addM_m (decPL_st h2) (timesP_st (decPL_st h1) hk)
      · have hq := timesP_st (decPL_st h1) hk
        rw [kB_val] at hq
        exact sameP_m (timesP_st PLB_st ld) (add_st (decPL_st h2) hq)
    · rw [decide_eq_false fun h => hl h.2] at h1
      have hv : verB pub text sig = false := if_neg fun h => hl h.2.2
      rw [hv]
      exact ever_bad2 hp hs h1
  · have hv : verB pub text sig = false := if_neg fun h2 => h ⟨h2.1, h2.2.1⟩
    rw [hv]
    refine ever_bad1 ?_
    by_cases hp : pub.length = 32
    · exact .inr fun hs => h ⟨hp, hs⟩
    · exact .inl hp
theorem rTimes_st (t : T3) {P : F × F} (h : PrjT t P) {n : List UInt8} (ln : n.length = 32) : PrjT (tmB t (leV n) 256) (nmul (leV n) P) := tmB_full h ln
theorem rEnc {t : T3} {P : F × F} (h : PrjT t P) : Spec Try.prog G 26 [.g (t3D t)] (.one (.c (.sl 32 ((encB P).map bD)))) := by
  have h1 := rbytes_m (G := G) t.1 t.2.1 t.2.2
  rw [prj_x h, prj_y h, bytesD, encB_len] at h1
  exact h1
def tB : T3 := (xBase, yBase, 1)
theorem tB_st : PrjT tB pB := prj_of pB_on
theorem rBase_m : Spec Try.prog G 23 [] (.one (.g (t3D tB))) := rbase_m
theorem rTimes_m (t : T3) {n : List UInt8} (ln : n.length = 32) : Spec Try.prog G 24 [.g (t3D t), .c (.sl 32 (n.map bD))] (.one (.g (t3D (tmB t (leV n) 256)))) := by
  have h := rtimes_m (G := G) t n ln
  rwa [bytesD, ln] at h
theorem rgetT_m {b : List UInt8} (lb : b.length = 32) : ∃ t : T3, (decOk b = true → PrjT t (decP b)) ∧ Spec Try.prog G 21 [.c (.sl 32 (b.map bD))] (.many [.g (t3D t), .c (.v (.bool (decOk b)))]) := by
  have h := rget_m (G := G) lb
  rw [bytesD, lb] at h
  by_cases ho : decOk b = true
  · rw [if_pos ho] at h
    exact ⟨((decP b).1, (decP b).2, 1), fun h => prj_of (decP_on h), h⟩
  · rw [if_neg ho] at h
    exact ⟨(0, 0, 0), fun h => absurd h ho, h⟩
theorem rAddT_m (s t : T3) : Spec Try.prog G 25 [.g (t3D s), .g (t3D t)] (.one (.g (t3D (aT s t)))) := rAdd_m _ _ _ _ _ _
theorem rver_p {pub text sig k : List UInt8} {tA tR tK tQ : T3} {PS PK : F × F} {o1 o2 : Bool} (lp : pub.length = 32) (ls : sig.length = 64) (lk : k.length = 32)
    (h1 : Spec Try.prog G 20 [.c (.sl 32 ((sig.drop 32).map bD))] (.one (.c (.v (.bool true)))))
    (h2 : Spec Try.prog G 21 [.c (.sl 32 (pub.map bD))] (.many [.g (t3D tA), .c (.v (.bool o1))]))
    (h3 : Spec Try.prog G 21 [.c (.sl 32 ((sig.take 32).map bD))] (.many [.g (t3D tR), .c (.v (.bool o2))]))
    (h4 : Spec Try.prog G 22 [.c (.sl 3 [.sl 32 ((sig.take 32).map bD), .sl 32 (pub.map bD), bytesD text])] (.one (.c (.sl 32 (k.map bD)))))
    (h6 : Spec Try.prog G 24 [.g (t3D tB), .c (.sl 32 ((sig.drop 32).map bD))] (.one (.g (t3D tQ))))
    (h7 : Spec Try.prog G 24 [.g (t3D tA), .c (.sl 32 (k.map bD))] (.one (.g (t3D tK))))
    (hQ : PrjT tQ PS) (hS : o1 = true → o2 = true → PrjT (aT tR tK) PK) :
    Spec Try.prog G 8 [.c (bytesD pub), .c (bytesD text), .c (bytesD sig)] (.one (.c (.v (.bool (o1 && (o2 && (encB PS == encB PK))))))) :=
  rver_w (x := encB PS) (y := encB PK) lp ls lk (t3D_len _) (t3D_len _) (t3D_len _) (t3D_len _) (t3D_len _) (encB_len _) (encB_len _) h1 h2 h3 (fun _ _ => h4) rBase_m (fun _ _ => h6) (fun _ _ => h7) (fun _ _ => rAddT_m _ _) (fun _ _ => rEnc hQ) (fun h1 h2 => rEnc (hS h1 h2))
theorem rver_m (pub text sig : List UInt8) (lp : pub.length ≤ 1000000) (lt : text.length ≤ 1000000) (lsg : sig.length ≤ 1000000) : Spec Try.prog G 8 [.c (bytesD pub), .c (bytesD text), .c (bytesD sig)] (.one (.c (.v (.bool (verB pub text sig))))) := by
  by_cases h : pub.length = 32 ∧ sig.length = 64
  · obtain ⟨hp, hs⟩ := h
    have ld : (sig.drop 32).length = 32 := by rw [List.length_drop, hs]
    have lk : (sig.take 32).length = 32 := by rw [List.length_take, hs]; rfl
    have h1 := refmay_m (G := G) (sig.drop 32) (by omega)
    unfold bytesD at h1
    rw [ld] at h1
    by_cases hl : leV (sig.drop 32) < lQ
    · rw [decide_eq_true ⟨rfl, hl⟩] at h1
      have hv : verB pub text sig = (decOk pub && (decOk (sig.take 32) && verP pub text sig)) := if_pos ⟨hp, hs, hl⟩
      rw [hv]
      obtain ⟨tA, hA, h2⟩ := rgetT_m (G := G) hp
      obtain ⟨tR, hR, h3⟩ := rgetT_m (G := G) lk
      have h4 := rrest_m (G := G) [sig.take 32, pub, text] (by simp [hp, hs]; omega)
      have hk := kB_len [sig.take 32, pub, text]
      have hkv := kB_val [sig.take 32, pub, text]
      have e1 : bytesD (sig.take 32) = .sl 32 ((sig.take 32).map bD) := by rw [bytesD, lk]
      have e2 : bytesD pub = .sl 32 (pub.map bD) := by rw [bytesD, hp]
      have e3 : bytesD (kB [sig.take 32, pub, text]) = .sl 32 ((kB [sig.take 32, pub, text]).map bD) := by rw [bytesD, hk]
      simp only [List.map_cons, List.map_nil, List.length_cons, List.length_nil, e1, e2, e3] at h4
      have hvp : verP pub text sig = decide (nmul (leV (sig.drop 32)) pB = pAdd (decP (sig.take 32)) (nmul (kR [sig.take 32, pub, text]) (decP pub))) := rfl
      rw [hvp]
      generalize kB [sig.take 32, pub, text] = kb at *
      generalize kR [sig.take 32, pub, text] = kr at *
      have h6 := rTimes_m (G := G) tB ld
      have h7 := rTimes_m (G := G) tA hk
      have hQ := rTimes_st tB tB_st ld
      have hS : decOk pub = true → decOk (sig.take 32) = true → PrjT (aT tR (tmB tA (leV kb) 256)) (pAdd (decP (sig.take 32)) (nmul kr (decP pub))) := fun h1 h2 => by
        have h5 := rTimes_st tA (hA h1) hk
        have h9 : PrjT (tmB tA (leV kb) 256) (nmul kr (decP pub)) := by
          rw [← hkv]
          exact h5
        exact prjT_add (hR h2) h9
      have hr := rver_p (text := text) hp hs hk h1 h2 h3 h4 h6 h7 hQ hS
      have hcmp : (decOk pub && (decOk (sig.take 32) && decide (nmul (leV (sig.drop 32)) pB = pAdd (decP (sig.take 32)) (nmul kr (decP pub))))) = (decOk pub && (decOk (sig.take 32) && (encB (nmul (leV (sig.drop 32)) pB) == encB (pAdd (decP (sig.take 32)) (nmul kr (decP pub)))))) := by
        cases ho1 : decOk pub
        · rfl
        cases ho2 : decOk (sig.take 32)
        · rfl
        have hq := (hS ho1 ho2).on
        simp only [Bool.true_and]
        rw [Bool.eq_iff_iff, beq_iff_eq, encB_inj (nmul_on pB_on _) hq, decide_eq_true_eq]
      rw [hcmp]
      exact hr
    · rw [decide_eq_false fun h => hl h.2] at h1
      have hv : verB pub text sig = false := if_neg fun h => hl h.2.2
      rw [hv]
      exact rver_bad2 hp hs h1
  · have hv : verB pub text sig = false := if_neg fun h2 => h ⟨h2.1, h2.2.1⟩
    rw [hv]
    refine rver_bad1 ?_
    by_cases hp : pub.length = 32
    · exact .inr fun hs => h ⟨hp, hs⟩
    · exact .inl hp
end
end Go.Proofs.Ytkpkiefebipbbaa
/- The public key of thirty-two zeros begins so. -/
namespace Go.Proofs.Ytkpkiefebipbbaa
def zerB : List UInt8 := [0, 0, 0, 0, 0, 0, 0, 0, 0, 0, 0, 0, 0, 0, 0, 0, 0, 0, 0, 0, 0, 0, 0, 0, 0, 0, 0, 0, 0, 0, 0, 0, 128, 0, 0, 0, 0, 0, 0, 0, 0, 0, 0, 0, 0, 0, 0, 0, 0, 0, 0, 0, 0, 0, 0, 0, 0, 0, 0, 0, 0, 0, 0, 0, 0, 0, 0, 0, 0, 0, 0, 0, 0, 0, 0, 0, 0, 0, 0, 0, 0, 0, 0, 0, 0, 0, 0, 0, 0, 0, 0, 0, 0, 0, 0, 0, 0, 0, 0, 0, 0, 0, 0, 0, 0, 0, 0, 0, 0, 0, 0, 0, 0, 0, 0, 0, 0, 0, 0, 0, 0, 0, 0, 0, 0, 0, 1, 0]
def zerW : List UInt64 := [0, 0, 0, 0, 9223372036854775808, 0, 0, 0, 0, 0, 0, 0, 0, 0, 0, 256, 0, 9007199254743044, 0, 4719772426664165376, 9223372036854775808, 361985685131002114, 144132780261900548, 8648063572759674900, 1173187702963572776, 126768607751657609, 13944307785744826688, 2667488058145767452, 2023559755096263684, 3076264096972779889, 1827872124046622896, 8310353164642315215, 12136906272933825081, 15545001212044488457, 14814700502097700868, 12285100419639919475, 9670082501097730335, 5518604699939968887, 9476093506087548489, 9796596215299450625, 5958344982377384288, 12265343076877762427, 12165219924428479518, 1325243823695169124, 11281310535319608749, 1034882804047488912, 1535714187706151253, 649279741799497956, 17459309777971477598, 5500650830056389434, 16562679484493522125, 13945535446963880796, 15567785657537865457, 14580602548817413697, 8635629319549429025, 14777824508854947588, 16911204817919595455, 13700561142527922852, 2574132088199195008, 10308614111758391576, 10852703017310842740, 16082347588028971208, 2184371991873687222, 12033888635545163341, 10419660119830469926, 8585216435925201857, 14386434745505789993, 7139669067458878980, 16562904965169700491, 18303181280394127650, 7589255923654424011, 10370349966052406001, 9383377643078173111, 7113417478183963821, 9287236787583809989, 7025827219752386637, 2720506219950445715, 11463598587821378836, 11074598858778813994, 3215546073741905920]
theorem zer_w0 : wordsOf zerB 0 = zerW.take 0 := rfl
theorem zer_w1 : wordsOf zerB 1 = zerW.take 1 := by
  rw [wordsOf, zer_w0]
  decide +kernel
theorem zer_w2 : wordsOf zerB 2 = zerW.take 2 := by
  rw [wordsOf, zer_w1]
  decide +kernel
theorem zer_w3 : wordsOf zerB 3 = zerW.take 3 := by
  rw [wordsOf, zer_w2]
  decide +kernel
theorem zer_w4 : wordsOf zerB 4 = zerW.take 4 := by
  rw [wordsOf, zer_w3]
  decide +kernel
theorem zer_w5 : wordsOf zerB 5 = zerW.take 5 := by
  rw [wordsOf, zer_w4]
  decide +kernel
theorem zer_w6 : wordsOf zerB 6 = zerW.take 6 := by
  rw [wordsOf, zer_w5]
  decide +kernel
theorem zer_w7 : wordsOf zerB 7 = zerW.take 7 := by
  rw [wordsOf, zer_w6]
  decide +kernel
theorem zer_w8 : wordsOf zerB 8 = zerW.take 8 := by
  rw [wordsOf, zer_w7]
  decide +kernel
theorem zer_w9 : wordsOf zerB 9 = zerW.take 9 := by
  rw [wordsOf, zer_w8]
  decide +kernel
theorem zer_w10 : wordsOf zerB 10 = zerW.take 10 := by
  rw [wordsOf, zer_w9]
  decide +kernel
theorem zer_w11 : wordsOf zerB 11 = zerW.take 11 := by
  rw [wordsOf, zer_w10]
  decide +kernel
theorem zer_w12 : wordsOf zerB 12 = zerW.take 12 := by
  rw [wordsOf, zer_w11]
  decide +kernel
theorem zer_w13 : wordsOf zerB 13 = zerW.take 13 := by
  rw [wordsOf, zer_w12]
  decide +kernel
theorem zer_w14 : wordsOf zerB 14 = zerW.take 14 := by
  rw [wordsOf, zer_w13]
  decide +kernel
theorem zer_w15 : wordsOf zerB 15 = zerW.take 15 := by
  rw [wordsOf, zer_w14]
  decide +kernel
theorem zer_w16 : wordsOf zerB 16 = zerW.take 16 := by
  rw [wordsOf, zer_w15]
  decide +kernel
theorem zer_w17 : wordsOf zerB 17 = zerW.take 17 := by
  rw [wordsOf, zer_w16]
  decide +kernel
theorem zer_w18 : wordsOf zerB 18 = zerW.take 18 := by
  rw [wordsOf, zer_w17]
  decide +kernel
theorem zer_w19 : wordsOf zerB 19 = zerW.take 19 := by
  rw [wordsOf, zer_w18]
  decide +kernel
theorem zer_w20 : wordsOf zerB 20 = zerW.take 20 := by
  rw [wordsOf, zer_w19]
  decide +kernel
theorem zer_w21 : wordsOf zerB 21 = zerW.take 21 := by
  rw [wordsOf, zer_w20]
  decide +kernel
theorem zer_w22 : wordsOf zerB 22 = zerW.take 22 := by
  rw [wordsOf, zer_w21]
  decide +kernel
theorem zer_w23 : wordsOf zerB 23 = zerW.take 23 := by
  rw [wordsOf, zer_w22]
  decide +kernel
theorem zer_w24 : wordsOf zerB 24 = zerW.take 24 := by
  rw [wordsOf, zer_w23]
  decide +kernel
theorem zer_w25 : wordsOf zerB 25 = zerW.take 25 := by
  rw [wordsOf, zer_w24]
  decide +kernel
theorem zer_w26 : wordsOf zerB 26 = zerW.take 26 := by
  rw [wordsOf, zer_w25]
  decide +kernel
theorem zer_w27 : wordsOf zerB 27 = zerW.take 27 := by
  rw [wordsOf, zer_w26]
  decide +kernel
theorem zer_w28 : wordsOf zerB 28 = zerW.take 28 := by
  rw [wordsOf, zer_w27]
  decide +kernel
theorem zer_w29 : wordsOf zerB 29 = zerW.take 29 := by
  rw [wordsOf, zer_w28]
  decide +kernel
theorem zer_w30 : wordsOf zerB 30 = zerW.take 30 := by
  rw [wordsOf, zer_w29]
  decide +kernel
theorem zer_w31 : wordsOf zerB 31 = zerW.take 31 := by
  rw [wordsOf, zer_w30]
  decide +kernel
theorem zer_w32 : wordsOf zerB 32 = zerW.take 32 := by
  rw [wordsOf, zer_w31]
  decide +kernel
theorem zer_w33 : wordsOf zerB 33 = zerW.take 33 := by
  rw [wordsOf, zer_w32]
  decide +kernel
theorem zer_w34 : wordsOf zerB 34 = zerW.take 34 := by
  rw [wordsOf, zer_w33]
  decide +kernel
theorem zer_w35 : wordsOf zerB 35 = zerW.take 35 := by
  rw [wordsOf, zer_w34]
  decide +kernel
theorem zer_w36 : wordsOf zerB 36 = zerW.take 36 := by
  rw [wordsOf, zer_w35]
  decide +kernel
theorem zer_w37 : wordsOf zerB 37 = zerW.take 37 := by
  rw [wordsOf, zer_w36]
  decide +kernel
theorem zer_w38 : wordsOf zerB 38 = zerW.take 38 := by
  rw [wordsOf, zer_w37]
  decide +kernel
theorem zer_w39 : wordsOf zerB 39 = zerW.take 39 := by
  rw [wordsOf, zer_w38]
  decide +kernel
theorem zer_w40 : wordsOf zerB 40 = zerW.take 40 := by
  rw [wordsOf, zer_w39]
  decide +kernel
theorem zer_w41 : wordsOf zerB 41 = zerW.take 41 := by
  rw [wordsOf, zer_w40]
  decide +kernel
theorem zer_w42 : wordsOf zerB 42 = zerW.take 42 := by
  rw [wordsOf, zer_w41]
  decide +kernel
theorem zer_w43 : wordsOf zerB 43 = zerW.take 43 := by
  rw [wordsOf, zer_w42]
  decide +kernel
theorem zer_w44 : wordsOf zerB 44 = zerW.take 44 := by
  rw [wordsOf, zer_w43]
  decide +kernel
theorem zer_w45 : wordsOf zerB 45 = zerW.take 45 := by
  rw [wordsOf, zer_w44]
  decide +kernel
theorem zer_w46 : wordsOf zerB 46 = zerW.take 46 := by
  rw [wordsOf, zer_w45]
  decide +kernel
theorem zer_w47 : wordsOf zerB 47 = zerW.take 47 := by
  rw [wordsOf, zer_w46]
  decide +kernel
theorem zer_w48 : wordsOf zerB 48 = zerW.take 48 := by
  rw [wordsOf, zer_w47]
  decide +kernel
theorem zer_w49 : wordsOf zerB 49 = zerW.take 49 := by
  rw [wordsOf, zer_w48]
  decide +kernel
theorem zer_w50 : wordsOf zerB 50 = zerW.take 50 := by
  rw [wordsOf, zer_w49]
  decide +kernel
theorem zer_w51 : wordsOf zerB 51 = zerW.take 51 := by
  rw [wordsOf, zer_w50]
  decide +kernel
theorem zer_w52 : wordsOf zerB 52 = zerW.take 52 := by
  rw [wordsOf, zer_w51]
  decide +kernel
theorem zer_w53 : wordsOf zerB 53 = zerW.take 53 := by
  rw [wordsOf, zer_w52]
  decide +kernel
theorem zer_w54 : wordsOf zerB 54 = zerW.take 54 := by
  rw [wordsOf, zer_w53]
  decide +kernel
theorem zer_w55 : wordsOf zerB 55 = zerW.take 55 := by
  rw [wordsOf, zer_w54]
  decide +kernel
theorem zer_w56 : wordsOf zerB 56 = zerW.take 56 := by
  rw [wordsOf, zer_w55]
  decide +kernel
theorem zer_w57 : wordsOf zerB 57 = zerW.take 57 := by
  rw [wordsOf, zer_w56]
  decide +kernel
theorem zer_w58 : wordsOf zerB 58 = zerW.take 58 := by
  rw [wordsOf, zer_w57]
  decide +kernel
theorem zer_w59 : wordsOf zerB 59 = zerW.take 59 := by
  rw [wordsOf, zer_w58]
  decide +kernel
theorem zer_w60 : wordsOf zerB 60 = zerW.take 60 := by
  rw [wordsOf, zer_w59]
  decide +kernel
theorem zer_w61 : wordsOf zerB 61 = zerW.take 61 := by
  rw [wordsOf, zer_w60]
  decide +kernel
theorem zer_w62 : wordsOf zerB 62 = zerW.take 62 := by
  rw [wordsOf, zer_w61]
  decide +kernel
theorem zer_w63 : wordsOf zerB 63 = zerW.take 63 := by
  rw [wordsOf, zer_w62]
  decide +kernel
theorem zer_w64 : wordsOf zerB 64 = zerW.take 64 := by
  rw [wordsOf, zer_w63]
  decide +kernel
theorem zer_w65 : wordsOf zerB 65 = zerW.take 65 := by
  rw [wordsOf, zer_w64]
  decide +kernel
theorem zer_w66 : wordsOf zerB 66 = zerW.take 66 := by
  rw [wordsOf, zer_w65]
  decide +kernel
theorem zer_w67 : wordsOf zerB 67 = zerW.take 67 := by
  rw [wordsOf, zer_w66]
  decide +kernel
theorem zer_w68 : wordsOf zerB 68 = zerW.take 68 := by
  rw [wordsOf, zer_w67]
  decide +kernel
theorem zer_w69 : wordsOf zerB 69 = zerW.take 69 := by
  rw [wordsOf, zer_w68]
  decide +kernel
theorem zer_w70 : wordsOf zerB 70 = zerW.take 70 := by
  rw [wordsOf, zer_w69]
  decide +kernel
theorem zer_w71 : wordsOf zerB 71 = zerW.take 71 := by
  rw [wordsOf, zer_w70]
  decide +kernel
theorem zer_w72 : wordsOf zerB 72 = zerW.take 72 := by
  rw [wordsOf, zer_w71]
  decide +kernel
theorem zer_w73 : wordsOf zerB 73 = zerW.take 73 := by
  rw [wordsOf, zer_w72]
  decide +kernel
theorem zer_w74 : wordsOf zerB 74 = zerW.take 74 := by
  rw [wordsOf, zer_w73]
  decide +kernel
theorem zer_w75 : wordsOf zerB 75 = zerW.take 75 := by
  rw [wordsOf, zer_w74]
  decide +kernel
theorem zer_w76 : wordsOf zerB 76 = zerW.take 76 := by
  rw [wordsOf, zer_w75]
  decide +kernel
theorem zer_w77 : wordsOf zerB 77 = zerW.take 77 := by
  rw [wordsOf, zer_w76]
  decide +kernel
theorem zer_w78 : wordsOf zerB 78 = zerW.take 78 := by
  rw [wordsOf, zer_w77]
  decide +kernel
theorem zer_w79 : wordsOf zerB 79 = zerW.take 79 := by
  rw [wordsOf, zer_w78]
  decide +kernel
theorem zer_w80 : wordsOf zerB 80 = zerW.take 80 := by
  rw [wordsOf, zer_w79]
  decide +kernel
theorem zer_r0 : roundsW ks0 zerW st0 0 = [7640891576956012808, 13503953896175478587, 4354685564936845355, 11912009170470909681, 5840696475078001361, 11170449401992604703, 2270897969802886507, 6620516959819538809] := by decide +kernel
theorem zer_r1 : roundsW ks0 zerW st0 1 = [10758372976291012085, 7640891576956012808, 13503953896175478587, 4354685564936845355, 17827673622936100753, 5840696475078001361, 11170449401992604703, 2270897969802886507] := by
  rw [roundsW, zer_r0]
  decide +kernel
theorem zer_r2 : roundsW ks0 zerW st0 2 = [11115036946241619673, 10758372976291012085, 7640891576956012808, 13503953896175478587, 9932265545342369336, 17827673622936100753, 5840696475078001361, 11170449401992604703] := by
  rw [roundsW, zer_r1]
  decide +kernel
theorem zer_r3 : roundsW ks0 zerW st0 3 = [4126266364255868068, 11115036946241619673, 10758372976291012085, 7640891576956012808, 4897852136903073097, 9932265545342369336, 17827673622936100753, 5840696475078001361] := by
  rw [roundsW, zer_r2]
  decide +kernel
theorem zer_r4 : roundsW ks0 zerW st0 4 = [5343641584730768695, 4126266364255868068, 11115036946241619673, 10758372976291012085, 16523341605267860574, 4897852136903073097, 9932265545342369336, 17827673622936100753] := by
  rw [roundsW, zer_r3]
  decide +kernel
theorem zer_r5 : roundsW ks0 zerW st0 5 = [11168902456601489605, 5343641584730768695, 4126266364255868068, 11115036946241619673, 627079433320757529, 16523341605267860574, 4897852136903073097, 9932265545342369336] := by
  rw [roundsW, zer_r4]
  decide +kernel
theorem zer_r6 : roundsW ks0 zerW st0 6 = [1302396440103629798, 11168902456601489605, 5343641584730768695, 4126266364255868068, 14806635048689895951, 627079433320757529, 16523341605267860574, 4897852136903073097] := by
  rw [roundsW, zer_r5]
  decide +kernel
theorem zer_r7 : roundsW ks0 zerW st0 7 = [15200776334310210592, 1302396440103629798, 11168902456601489605, 5343641584730768695, 15174314027989733557, 14806635048689895951, 627079433320757529, 16523341605267860574] := by
  rw [roundsW, zer_r6]
  decide +kernel
theorem zer_r8 : roundsW ks0 zerW st0 8 = [17208046804368280137, 15200776334310210592, 1302396440103629798, 11168902456601489605, 9272832003298536862, 15174314027989733557, 14806635048689895951, 627079433320757529] := by
  rw [roundsW, zer_r7]
  decide +kernel
theorem zer_r9 : roundsW ks0 zerW st0 9 = [8492703388701907715, 17208046804368280137, 15200776334310210592, 1302396440103629798, 16034440948875958624, 9272832003298536862, 15174314027989733557, 14806635048689895951] := by
  rw [roundsW, zer_r8]
  decide +kernel
theorem zer_r10 : roundsW ks0 zerW st0 10 = [7755397839558790253, 8492703388701907715, 17208046804368280137, 15200776334310210592, 13502761422932650927, 16034440948875958624, 9272832003298536862, 15174314027989733557] := by
  rw [roundsW, zer_r9]
  decide +kernel
theorem zer_r11 : roundsW ks0 zerW st0 11 = [7030135620985194732, 7755397839558790253, 8492703388701907715, 17208046804368280137, 2096611521171684090, 13502761422932650927, 16034440948875958624, 9272832003298536862] := by
  rw [roundsW, zer_r10]
  decide +kernel
theorem zer_r12 : roundsW ks0 zerW st0 12 = [2312015059832132880, 7030135620985194732, 7755397839558790253, 8492703388701907715, 13672406949288936619, 2096611521171684090, 13502761422932650927, 16034440948875958624] := by
  rw [roundsW, zer_r11]
  decide +kernel
theorem zer_r13 : roundsW ks0 zerW st0 13 = [16523165081541911161, 2312015059832132880, 7030135620985194732, 7755397839558790253, 16941445236327295330, 13672406949288936619, 2096611521171684090, 13502761422932650927] := by
  rw [roundsW, zer_r12]
  decide +kernel
theorem zer_r14 : roundsW ks0 zerW st0 14 = [5830777752747395166, 16523165081541911161, 2312015059832132880, 7030135620985194732, 18281535139762694881, 16941445236327295330, 13672406949288936619, 2096611521171684090] := by
  rw [roundsW, zer_r13]
  decide +kernel
theorem zer_r15 : roundsW ks0 zerW st0 15 = [10783373218667509365, 5830777752747395166, 16523165081541911161, 2312015059832132880, 2421145553396808227, 18281535139762694881, 16941445236327295330, 13672406949288936619] := by
  rw [roundsW, zer_r14]
  decide +kernel
theorem zer_r16 : roundsW ks0 zerW st0 16 = [4479050482935558316, 10783373218667509365, 5830777752747395166, 16523165081541911161, 851941326718768001, 2421145553396808227, 18281535139762694881, 16941445236327295330] := by
  rw [roundsW, zer_r15]
  decide +kernel
theorem zer_r17 : roundsW ks0 zerW st0 17 = [11702245667014225582, 4479050482935558316, 10783373218667509365, 5830777752747395166, 17300981003431507799, 851941326718768001, 2421145553396808227, 18281535139762694881] := by
  rw [roundsW, zer_r16]
  decide +kernel
theorem zer_r18 : roundsW ks0 zerW st0 18 = [3280029084718757303, 11702245667014225582, 4479050482935558316, 10783373218667509365, 16714166088777974375, 17300981003431507799, 851941326718768001, 2421145553396808227] := by
  rw [roundsW, zer_r17]
  decide +kernel
theorem zer_r19 : roundsW ks0 zerW st0 19 = [7259474283948259824, 3280029084718757303, 11702245667014225582, 4479050482935558316, 7521305024183279694, 16714166088777974375, 17300981003431507799, 851941326718768001] := by
  rw [roundsW, zer_r18]
  decide +kernel
theorem zer_r20 : roundsW ks0 zerW st0 20 = [12603740802078081619, 7259474283948259824, 3280029084718757303, 11702245667014225582, 2439087024015677111, 7521305024183279694, 16714166088777974375, 17300981003431507799] := by
  rw [roundsW, zer_r19]
  decide +kernel
theorem zer_r21 : roundsW ks0 zerW st0 21 = [1537361645710774433, 12603740802078081619, 7259474283948259824, 3280029084718757303, 3061020130476478910, 2439087024015677111, 7521305024183279694, 16714166088777974375] := by
  rw [roundsW, zer_r20]
  decide +kernel
theorem zer_r22 : roundsW ks0 zerW st0 22 = [2396587261501461511, 1537361645710774433, 12603740802078081619, 7259474283948259824, 18327999007697665139, 3061020130476478910, 2439087024015677111, 7521305024183279694] := by
  rw [roundsW, zer_r21]
  decide +kernel
theorem zer_r23 : roundsW ks0 zerW st0 23 = [15578081726648313859, 2396587261501461511, 1537361645710774433, 12603740802078081619, 5182447908206143290, 18327999007697665139, 3061020130476478910, 2439087024015677111] := by
  rw [roundsW, zer_r22]
  decide +kernel
theorem zer_r24 : roundsW ks0 zerW st0 24 = [5464896530425090686, 15578081726648313859, 2396587261501461511, 1537361645710774433, 4489227580986569443, 5182447908206143290, 18327999007697665139, 3061020130476478910] := by
  rw [roundsW, zer_r23]
  decide +kernel
theorem zer_r25 : roundsW ks0 zerW st0 25 = [8079588423635971269, 5464896530425090686, 15578081726648313859, 2396587261501461511, 963291311694375013, 4489227580986569443, 5182447908206143290, 18327999007697665139] := by
  rw [roundsW, zer_r24]
  decide +kernel
theorem zer_r26 : roundsW ks0 zerW st0 26 = [8590249264134269809, 8079588423635971269, 5464896530425090686, 15578081726648313859, 8078194955157153449, 963291311694375013, 4489227580986569443, 5182447908206143290] := by
  rw [roundsW, zer_r25]
  decide +kernel
theorem zer_r27 : roundsW ks0 zerW st0 27 = [7463697391145966002, 8590249264134269809, 8079588423635971269, 5464896530425090686, 10553505094661485635, 8078194955157153449, 963291311694375013, 4489227580986569443] := by
  rw [roundsW, zer_r26]
  decide +kernel
theorem zer_r28 : roundsW ks0 zerW st0 28 = [3706265178671430226, 7463697391145966002, 8590249264134269809, 8079588423635971269, 10628536666645987242, 10553505094661485635, 8078194955157153449, 963291311694375013] := by
  rw [roundsW, zer_r27]
  decide +kernel
theorem zer_r29 : roundsW ks0 zerW st0 29 = [3525803993081217942, 3706265178671430226, 7463697391145966002, 8590249264134269809, 13287781554297122783, 10628536666645987242, 10553505094661485635, 8078194955157153449] := by
  rw [roundsW, zer_r28]
  decide +kernel
theorem zer_r30 : roundsW ks0 zerW st0 30 = [7047087411074569085, 3525803993081217942, 3706265178671430226, 7463697391145966002, 13566656608276548562, 13287781554297122783, 10628536666645987242, 10553505094661485635] := by
  rw [roundsW, zer_r29]
  decide +kernel
theorem zer_r31 : roundsW ks0 zerW st0 31 = [5664254687711525247, 7047087411074569085, 3525803993081217942, 3706265178671430226, 13874964982419472308, 13566656608276548562, 13287781554297122783, 10628536666645987242] := by
  rw [roundsW, zer_r30]
  decide +kernel
theorem zer_r32 : roundsW ks0 zerW st0 32 = [14726941729103868001, 5664254687711525247, 7047087411074569085, 3525803993081217942, 5173953181071844509, 13874964982419472308, 13566656608276548562, 13287781554297122783] := by
  rw [roundsW, zer_r31]
  decide +kernel
theorem zer_r33 : roundsW ks0 zerW st0 33 = [7020929409684525903, 14726941729103868001, 5664254687711525247, 7047087411074569085, 5615751895262237939, 5173953181071844509, 13874964982419472308, 13566656608276548562] := by
  rw [roundsW, zer_r32]
  decide +kernel
theorem zer_r34 : roundsW ks0 zerW st0 34 = [8461667706126069220, 7020929409684525903, 14726941729103868001, 5664254687711525247, 4941752670844118600, 5615751895262237939, 5173953181071844509, 13874964982419472308] := by
  rw [roundsW, zer_r33]
  decide +kernel
theorem zer_r35 : roundsW ks0 zerW st0 35 = [379464524265310633, 8461667706126069220, 7020929409684525903, 14726941729103868001, 16203679033354392874, 4941752670844118600, 5615751895262237939, 5173953181071844509] := by
  rw [roundsW, zer_r34]
  decide +kernel
theorem zer_r36 : roundsW ks0 zerW st0 36 = [15549802313875602274, 379464524265310633, 8461667706126069220, 7020929409684525903, 14712077907107959277, 16203679033354392874, 4941752670844118600, 5615751895262237939] := by
  rw [roundsW, zer_r35]
  decide +kernel
theorem zer_r37 : roundsW ks0 zerW st0 37 = [17263284987263657958, 15549802313875602274, 379464524265310633, 8461667706126069220, 16337914719854201846, 14712077907107959277, 16203679033354392874, 4941752670844118600] := by
  rw [roundsW, zer_r36]
  decide +kernel
theorem zer_r38 : roundsW ks0 zerW st0 38 = [14638953785217629854, 17263284987263657958, 15549802313875602274, 379464524265310633, 6531442153746177128, 16337914719854201846, 14712077907107959277, 16203679033354392874] := by
  rw [roundsW, zer_r37]
  decide +kernel
theorem zer_r39 : roundsW ks0 zerW st0 39 = [18014955160550453689, 14638953785217629854, 17263284987263657958, 15549802313875602274, 14194663295104695616, 6531442153746177128, 16337914719854201846, 14712077907107959277] := by
  rw [roundsW, zer_r38]
  decide +kernel
theorem zer_r40 : roundsW ks0 zerW st0 40 = [6109844019387451280, 18014955160550453689, 14638953785217629854, 17263284987263657958, 4534933068400390657, 14194663295104695616, 6531442153746177128, 16337914719854201846] := by
  rw [roundsW, zer_r39]
  decide +kernel
theorem zer_r41 : roundsW ks0 zerW st0 41 = [3934753730757518807, 6109844019387451280, 18014955160550453689, 14638953785217629854, 7262160739443047838, 4534933068400390657, 14194663295104695616, 6531442153746177128] := by
  rw [roundsW, zer_r40]
  decide +kernel
theorem zer_r42 : roundsW ks0 zerW st0 42 = [11221941365251729549, 3934753730757518807, 6109844019387451280, 18014955160550453689, 5752790583666708941, 7262160739443047838, 4534933068400390657, 14194663295104695616] := by
  rw [roundsW, zer_r41]
  decide +kernel
theorem zer_r43 : roundsW ks0 zerW st0 43 = [12170060852399267806, 11221941365251729549, 3934753730757518807, 6109844019387451280, 4863095209128836662, 5752790583666708941, 7262160739443047838, 4534933068400390657] := by
  rw [roundsW, zer_r42]
  decide +kernel
theorem zer_r44 : roundsW ks0 zerW st0 44 = [15552401992348485791, 12170060852399267806, 11221941365251729549, 3934753730757518807, 8352703515361797755, 4863095209128836662, 5752790583666708941, 7262160739443047838] := by
  rw [roundsW, zer_r43]
  decide +kernel
theorem zer_r45 : roundsW ks0 zerW st0 45 = [7917789096369028140, 15552401992348485791, 12170060852399267806, 11221941365251729549, 337867160903401868, 8352703515361797755, 4863095209128836662, 5752790583666708941] := by
  rw [roundsW, zer_r44]
  decide +kernel
theorem zer_r46 : roundsW ks0 zerW st0 46 = [5980717885382567603, 7917789096369028140, 15552401992348485791, 12170060852399267806, 10992113497116646001, 337867160903401868, 8352703515361797755, 4863095209128836662] := by
  rw [roundsW, zer_r45]
  decide +kernel
theorem zer_r47 : roundsW ks0 zerW st0 47 = [2164993625293247554, 5980717885382567603, 7917789096369028140, 15552401992348485791, 16909216741560437109, 10992113497116646001, 337867160903401868, 8352703515361797755] := by
  rw [roundsW, zer_r46]
  decide +kernel
theorem zer_r48 : roundsW ks0 zerW st0 48 = [6484337866056519823, 2164993625293247554, 5980717885382567603, 7917789096369028140, 11893120751304626942, 16909216741560437109, 10992113497116646001, 337867160903401868] := by
  rw [roundsW, zer_r47]
  decide +kernel
theorem zer_r49 : roundsW ks0 zerW st0 49 = [4514939707137230467, 6484337866056519823, 2164993625293247554, 5980717885382567603, 1125160240832120182, 11893120751304626942, 16909216741560437109, 10992113497116646001] := by
  rw [roundsW, zer_r48]
  decide +kernel
theorem zer_r50 : roundsW ks0 zerW st0 50 = [15645523297110002428, 4514939707137230467, 6484337866056519823, 2164993625293247554, 3626739556018553871, 1125160240832120182, 11893120751304626942, 16909216741560437109] := by
  rw [roundsW, zer_r49]
  decide +kernel
theorem zer_r51 : roundsW ks0 zerW st0 51 = [16447334635902428014, 15645523297110002428, 4514939707137230467, 6484337866056519823, 14023129358220355687, 3626739556018553871, 1125160240832120182, 11893120751304626942] := by
  rw [roundsW, zer_r50]
  decide +kernel
theorem zer_r52 : roundsW ks0 zerW st0 52 = [17023595609519142724, 16447334635902428014, 15645523297110002428, 4514939707137230467, 11177193476556092421, 14023129358220355687, 3626739556018553871, 1125160240832120182] := by
  rw [roundsW, zer_r51]
  decide +kernel
theorem zer_r53 : roundsW ks0 zerW st0 53 = [6401030026082633268, 17023595609519142724, 16447334635902428014, 15645523297110002428, 15308037697050920686, 11177193476556092421, 14023129358220355687, 3626739556018553871] := by
  rw [roundsW, zer_r52]
  decide +kernel
theorem zer_r54 : roundsW ks0 zerW st0 54 = [14333128423172872232, 6401030026082633268, 17023595609519142724, 16447334635902428014, 15298117696424949212, 15308037697050920686, 11177193476556092421, 14023129358220355687] := by
  rw [roundsW, zer_r53]
  decide +kernel
theorem zer_r55 : roundsW ks0 zerW st0 55 = [2340657871528695503, 14333128423172872232, 6401030026082633268, 17023595609519142724, 6818534125984460103, 15298117696424949212, 15308037697050920686, 11177193476556092421] := by
  rw [roundsW, zer_r54]
  decide +kernel
theorem zer_r56 : roundsW ks0 zerW st0 56 = [17181778841757954467, 2340657871528695503, 14333128423172872232, 6401030026082633268, 15841754175645970547, 6818534125984460103, 15298117696424949212, 15308037697050920686] := by
  rw [roundsW, zer_r55]
  decide +kernel
theorem zer_r57 : roundsW ks0 zerW st0 57 = [8316550594923792609, 17181778841757954467, 2340657871528695503, 14333128423172872232, 5658120392235887474, 15841754175645970547, 6818534125984460103, 15298117696424949212] := by
  rw [roundsW, zer_r56]
  decide +kernel
theorem zer_r58 : roundsW ks0 zerW st0 58 = [16525350475053332148, 8316550594923792609, 17181778841757954467, 2340657871528695503, 15136793916924334787, 5658120392235887474, 15841754175645970547, 6818534125984460103] := by
  rw [roundsW, zer_r57]
  decide +kernel
theorem zer_r59 : roundsW ks0 zerW st0 59 = [16732118037317178048, 16525350475053332148, 8316550594923792609, 17181778841757954467, 3774921253118411700, 15136793916924334787, 5658120392235887474, 15841754175645970547] := by
  rw [roundsW, zer_r58]
  decide +kernel
theorem zer_r60 : roundsW ks0 zerW st0 60 = [10477334923476079977, 16732118037317178048, 16525350475053332148, 8316550594923792609, 4564036060695640955, 3774921253118411700, 15136793916924334787, 5658120392235887474] := by
  rw [roundsW, zer_r59]
  decide +kernel
theorem zer_r61 : roundsW ks0 zerW st0 61 = [1675981542843284747, 10477334923476079977, 16732118037317178048, 16525350475053332148, 825740300549928085, 4564036060695640955, 3774921253118411700, 15136793916924334787] := by
  rw [roundsW, zer_r60]
  decide +kernel
theorem zer_r62 : roundsW ks0 zerW st0 62 = [18002758202473554379, 1675981542843284747, 10477334923476079977, 16732118037317178048, 4891636288461320038, 825740300549928085, 4564036060695640955, 3774921253118411700] := by
  rw [roundsW, zer_r61]
  decide +kernel
theorem zer_r63 : roundsW ks0 zerW st0 63 = [18349958183428923895, 18002758202473554379, 1675981542843284747, 10477334923476079977, 12384616198518925361, 4891636288461320038, 825740300549928085, 4564036060695640955] := by
  rw [roundsW, zer_r62]
  decide +kernel
theorem zer_r64 : roundsW ks0 zerW st0 64 = [14263519478537648808, 18349958183428923895, 18002758202473554379, 1675981542843284747, 3806274531594431357, 12384616198518925361, 4891636288461320038, 825740300549928085] := by
  rw [roundsW, zer_r63]
  decide +kernel
theorem zer_r65 : roundsW ks0 zerW st0 65 = [2518871767924734864, 14263519478537648808, 18349958183428923895, 18002758202473554379, 10885499170187179968, 3806274531594431357, 12384616198518925361, 4891636288461320038] := by
  rw [roundsW, zer_r64]
  decide +kernel
theorem zer_r66 : roundsW ks0 zerW st0 66 = [10167427158072057591, 2518871767924734864, 14263519478537648808, 18349958183428923895, 14923328952548945946, 10885499170187179968, 3806274531594431357, 12384616198518925361] := by
  rw [roundsW, zer_r65]
  decide +kernel
theorem zer_r67 : roundsW ks0 zerW st0 67 = [6453938761489340098, 10167427158072057591, 2518871767924734864, 14263519478537648808, 7469784290968133967, 14923328952548945946, 10885499170187179968, 3806274531594431357] := by
  rw [roundsW, zer_r66]
  decide +kernel
theorem zer_r68 : roundsW ks0 zerW st0 68 = [15156157019208777747, 6453938761489340098, 10167427158072057591, 2518871767924734864, 14829823243297303650, 7469784290968133967, 14923328952548945946, 10885499170187179968] := by
  rw [roundsW, zer_r67]
  decide +kernel
theorem zer_r69 : roundsW ks0 zerW st0 69 = [17406653508796741912, 15156157019208777747, 6453938761489340098, 10167427158072057591, 2125308069535244253, 14829823243297303650, 7469784290968133967, 14923328952548945946] := by
  rw [roundsW, zer_r68]
  decide +kernel
theorem zer_r70 : roundsW ks0 zerW st0 70 = [1570791217848826313, 17406653508796741912, 15156157019208777747, 6453938761489340098, 8272582750246839156, 2125308069535244253, 14829823243297303650, 7469784290968133967] := by
  rw [roundsW, zer_r69]
  decide +kernel
theorem zer_r71 : roundsW ks0 zerW st0 71 = [14488324544568235627, 1570791217848826313, 17406653508796741912, 15156157019208777747, 10039812137888914178, 8272582750246839156, 2125308069535244253, 14829823243297303650] := by
  rw [roundsW, zer_r70]
  decide +kernel
theorem zer_r72 : roundsW ks0 zerW st0 72 = [13060178779355539256, 14488324544568235627, 1570791217848826313, 17406653508796741912, 8486314926255750478, 10039812137888914178, 8272582750246839156, 2125308069535244253] := by
  rw [roundsW, zer_r71]
  decide +kernel
theorem zer_r73 : roundsW ks0 zerW st0 73 = [18328841029446720343, 13060178779355539256, 14488324544568235627, 1570791217848826313, 6817047941946052733, 8486314926255750478, 10039812137888914178, 8272582750246839156] := by
  rw [roundsW, zer_r72]
  decide +kernel
theorem zer_r74 : roundsW ks0 zerW st0 74 = [18170168180967726918, 18328841029446720343, 13060178779355539256, 14488324544568235627, 1142590970254049387, 6817047941946052733, 8486314926255750478, 10039812137888914178] := by
  rw [roundsW, zer_r73]
  decide +kernel
theorem zer_r75 : roundsW ks0 zerW st0 75 = [3931110873737423470, 18170168180967726918, 18328841029446720343, 13060178779355539256, 6248892937991631189, 1142590970254049387, 6817047941946052733, 8486314926255750478] := by
  rw [roundsW, zer_r74]
  decide +kernel
theorem zer_r76 : roundsW ks0 zerW st0 76 = [5567541349902180190, 3931110873737423470, 18170168180967726918, 18328841029446720343, 3003314452009162791, 6248892937991631189, 1142590970254049387, 6817047941946052733] := by
  rw [roundsW, zer_r75]
  decide +kernel
theorem zer_r77 : roundsW ks0 zerW st0 77 = [5776266022435338917, 5567541349902180190, 3931110873737423470, 18170168180967726918, 2551491534185647194, 3003314452009162791, 6248892937991631189, 1142590970254049387] := by
  rw [roundsW, zer_r76]
  decide +kernel
theorem zer_r78 : roundsW ks0 zerW st0 78 = [2037463206167937637, 5776266022435338917, 5567541349902180190, 3931110873737423470, 16194014959973738944, 2551491534185647194, 3003314452009162791, 6248892937991631189] := by
  rw [roundsW, zer_r77]
  decide +kernel
theorem zer_r79 : roundsW ks0 zerW st0 79 = [13818184367001344771, 2037463206167937637, 5776266022435338917, 5567541349902180190, 11114007369083713373, 16194014959973738944, 2551491534185647194, 3003314452009162791] := by
  rw [roundsW, zer_r78]
  decide +kernel
theorem zer_r80 : roundsW ks0 zerW st0 80 = [16590354316283047806, 13818184367001344771, 2037463206167937637, 5776266022435338917, 13356607129400399863, 11114007369083713373, 16194014959973738944, 2551491534185647194] := by
  rw [roundsW, zer_r79]
  decide +kernel
theorem zer_fill : fillB (List.replicate 32 0) 32 = zerB := by decide +kernel
theorem zer_sum : shaL (List.replicate 32 0) = digest [5784501819529508998, 8875394189467271742, 6392148771104782992, 17688275192906248598, 750559530768849608, 3837712697366766460, 18168856067073835, 9172008494005186003] := by
  show digest (eatF (eatF st0 (List.replicate 32 0)).1 (fillB (eatF st0 (List.replicate 32 0)).2 32)).1 = _
  have h0 : eatF st0 (List.replicate 32 0) = (st0, List.replicate 32 0) := eatF_stop (by decide)
  rw [h0]
  show digest (eatF st0 (fillB (List.replicate 32 0) 32)).1 = _
  rw [zer_fill, eatF_go (by decide +kernel), show zerB.take 128 = zerB by decide +kernel, show zerB.drop 128 = [] by decide +kernel, eatF_stop (by decide)]
  show digest (addsW st0 (roundsW ks0 (wordsOf zerB 80) st0 80)) = _
  rw [zer_w80, show zerW.take 80 = zerW by decide +kernel, zer_r80]
  congr 1
def zerN : List UInt8 := [80, 70, 173, 193, 219, 168, 56, 134, 123, 43, 187, 253, 208, 195, 66, 62, 88, 181, 121, 112, 181, 38, 122, 144, 245, 121, 96, 146, 74, 135, 241, 86]
theorem zer_sec : secN (shaL (List.replicate 32 0)) = zerN := by rw [zer_sum]; decide +kernel
theorem zer_val : leV zerN = 39325648866980652792715009169219496062012184734522019333892538943312776480336 := by decide +kernel
theorem zm_0 : tmN 1458669386 bN 32 (0, 1, 1) = (16131654361425289794537575663796756549060058761753528127487941791509648236004, 28357951292213356563800637064410155012469389161615519649004059390285143865429, 12683103947390476550668524112422240842701087056636314723096358013515320027215) := by decide +kernel
theorem zm_1 : tmN 2455796213 bN 32 (16131654361425289794537575663796756549060058761753528127487941791509648236004, 28357951292213356563800637064410155012469389161615519649004059390285143865429, 12683103947390476550668524112422240842701087056636314723096358013515320027215) = (36246384768772567865857542040006089325665518853009011992196470566902617455788, 2049314681509613904676325676257950523970123632835933513866134346510144672659, 1741088478108522779106423237653237779735295921652659807937206648616683868369) := by decide +kernel
theorem zm_2 : tmN 2423924405 bN 32 (36246384768772567865857542040006089325665518853009011992196470566902617455788, 2049314681509613904676325676257950523970123632835933513866134346510144672659, 1741088478108522779106423237653237779735295921652659807937206648616683868369) = (25653463729213024135855347293458296989835272320847723431606299223122469611064, 16074056574211910107463560903487461443796145549097271430946357572449671302644, 42021214278079027010777722968592885514995632892340735021380903062649921646468) := by decide +kernel
theorem zm_3 : tmN 1887024472 bN 32 (25653463729213024135855347293458296989835272320847723431606299223122469611064, 16074056574211910107463560903487461443796145549097271430946357572449671302644, 42021214278079027010777722968592885514995632892340735021380903062649921646468) = (20335481639791096220606081666479165376133691008478079039378794605997966061218, 52657524731928448996106976955250181454533551441079484579104832024467385150434, 30538698185588649600036017901878832260662676788157285837528949135456138942268) := by decide +kernel
theorem zm_4 : tmN 1044562896 bN 32 (20335481639791096220606081666479165376133691008478079039378794605997966061218, 52657524731928448996106976955250181454533551441079484579104832024467385150434, 30538698185588649600036017901878832260662676788157285837528949135456138942268) = (39535866183869243309007428675542351819157872423574851943440721405381507482525, 23263654257581958724909250275377710544170035396648943746431129599635737693775, 16358297005845645644555004983171612364687107893927681007902935460674214839270) := by decide +kernel
theorem zm_5 : tmN 4256902011 bN 32 (39535866183869243309007428675542351819157872423574851943440721405381507482525, 23263654257581958724909250275377710544170035396648943746431129599635737693775, 16358297005845645644555004983171612364687107893927681007902935460674214839270) = (34995880826356191654813548730275322939993082881740038141987862644299751083260, 21115653745287810096911462623530499730580481463927551547879025098043293213378, 9906861276338426116713477853748031290926575020590575827549037024417867459298) := by decide +kernel
theorem zm_6 : tmN 2251860187 bN 32 (34995880826356191654813548730275322939993082881740038141987862644299751083260, 21115653745287810096911462623530499730580481463927551547879025098043293213378, 9906861276338426116713477853748031290926575020590575827549037024417867459298) = (12048144128851741291873073801496347447356650179504057637644411258273371439695, 27601893033028899973231734191402406531658694391975048731329330053905128659023, 24785878446212223392486695909614542181532554797485406084672996628491668719770) := by decide +kernel
theorem zm_7 : tmN 3249358416 bN 32 (12048144128851741291873073801496347447356650179504057637644411258273371439695, 27601893033028899973231734191402406531658694391975048731329330053905128659023, 24785878446212223392486695909614542181532554797485406084672996628491668719770) = (57858664897908083886616730048133495680846695993816524414160888176976220141864, 19726323970308381861037264260459780811373847171889358821150822261828039361496, 24471432733940390919967843837209335102995873066817353683885557581620014762187) := by decide +kernel
theorem zm_st0 : PrjT (toT (0, 1, 1)) (nmul 0 pB) := prj_O
theorem zm_st1 : PrjT (toT (16131654361425289794537575663796756549060058761753528127487941791509648236004, 28357951292213356563800637064410155012469389161615519649004059390285143865429, 12683103947390476550668524112422240842701087056636314723096358013515320027215)) (nmul 1458669386 pB) := by
  have h := tmN_st bN_st 1458669386 32 0 _ zm_st0
  rw [zm_0] at h
  exact h
theorem zm_st2 : PrjT (toT (36246384768772567865857542040006089325665518853009011992196470566902617455788, 2049314681509613904676325676257950523970123632835933513866134346510144672659, 1741088478108522779106423237653237779735295921652659807937206648616683868369)) (nmul 6264937311002196469 pB) := by
  have h := tmN_st bN_st 2455796213 32 1458669386 _ zm_st1
  rw [zm_1] at h
  exact h
theorem zm_st3 : PrjT (toT (25653463729213024135855347293458296989835272320847723431606299223122469611064, 16074056574211910107463560903487461443796145549097271430946357572449671302644, 42021214278079027010777722968592885514995632892340735021380903062649921646468)) (nmul 26907700862244614820945602229 pB) := by
  have h := tmN_st bN_st 2423924405 32 6264937311002196469 _ zm_st2
  rw [zm_2] at h
  exact h
theorem zm_st4 : PrjT (toT (20335481639791096220606081666479165376133691008478079039378794605997966061218, 52657524731928448996106976955250181454533551441079484579104832024467385150434, 30538698185588649600036017901878832260662676788157285837528949135456138942268)) (nmul 115567695213891621808078257370466727256 pB) := by
  have h := tmN_st bN_st 1887024472 32 26907700862244614820945602229 _ zm_st3
  rw [zm_3] at h
  exact h
theorem zm_st5 : PrjT (toT (39535866183869243309007428675542351819157872423574851943440721405381507482525, 23263654257581958724909250275377710544170035396648943746431129599635737693775, 16358297005845645644555004983171612364687107893927681007902935460674214839270)) (nmul 496359471417760240554096504014825549821716382672 pB) := by
  have h := tmN_st bN_st 1044562896 32 115567695213891621808078257370466727256 _ zm_st4
  rw [zm_4] at h
  exact h
theorem zm_st6 : PrjT (toT (34995880826356191654813548730275322939993082881740038141987862644299751083260, 21115653745287810096911462623530499730580481463927551547879025098043293213378, 9906861276338426116713477853748031290926575020590575827549037024417867459298)) (nmul 2131847696799126986748937403571608435629490494167917996923 pB) := by
  have h := tmN_st bN_st 4256902011 32 496359471417760240554096504014825549821716382672 _ zm_st5
  rw [zm_5] at h
  exact h
theorem zm_st7 : PrjT (toT (12048144128851741291873073801496347447356650179504057637644411258273371439695, 27601893033028899973231734191402406531658694391975048731329330053905128659023, 24785878446212223392486695909614542181532554797485406084672996628491668719770)) (nmul 9156216137805174289437711511091211825146382845594086529196365490395 pB) := by
  have h := tmN_st bN_st 2251860187 32 2131847696799126986748937403571608435629490494167917996923 _ zm_st6
  rw [zm_6] at h
  exact h
theorem zm_st8 : PrjT (toT (57858664897908083886616730048133495680846695993816524414160888176976220141864, 19726323970308381861037264260459780811373847171889358821150822261828039361496, 24471432733940390919967843837209335102995873066817353683885557581620014762187)) (nmul 39325648866980652792715009169219496062012184734522019333892538943312776480336 pB) := by
  have h := tmN_st bN_st 3249358416 32 9156216137805174289437711511091211825146382845594086529196365490395 _ zm_st7
  rw [zm_7] at h
  exact h
theorem zer_y : (nmul (leV zerN) pB).2 = toF 18930617471878267742194159801949745215346600387277955685031939302387136031291 := by
  rw [zer_val]
  have h := zm_st8
  have hz := h.nz
  have hy := h.y
  generalize nmul 39325648866980652792715009169219496062012184734522019333892538943312776480336 pB = P at *
  refine mul_left_cancel hz (g_rot.trans (hy.symm.trans ?_))
  decide +kernel
theorem enc_low {P : F × F} {k : Nat} (hk : k < 31) : (encB P).getD k 0 = (leB P.2.val).getD k 0 := by
  unfold encB
  split
  · rw [setTop, List.getD_eq_getElem?_getD, List.getElem?_set_ne (by omega), ← List.getD_eq_getElem?_getD]
  · rfl
def zerK : List UInt8 := encB (nmul (leV (secN (shaL (List.replicate 32 0)))) pB)
theorem zerK_eq : zerK = encB (nmul (leV zerN) pB) := by rw [zerK, zer_sec]
theorem zerK_0 : zerK.getD 0 0 = 59 := by rw [zerK_eq, enc_low (by omega), zer_y]; decide +kernel
theorem zerK_1 : zerK.getD 1 0 = 106 := by rw [zerK_eq, enc_low (by omega), zer_y]; decide +kernel
theorem zerK_2 : zerK.getD 2 0 = 39 := by rw [zerK_eq, enc_low (by omega), zer_y]; decide +kernel
theorem zerK_3 : zerK.getD 3 0 = 188 := by rw [zerK_eq, enc_low (by omega), zer_y]; decide +kernel
end Go.Proofs.Ytkpkiefebipbbaa
/- The document's example; whether any signature is right. -/
namespace Go.Proofs.Ytkpkiefebipbbaa
open Go.RowKit
section
variable {G : Nat → Option (List D)}
theorem awake_w {k : List UInt8} (lk : k.length = 32) (h0 : k.getD 0 0 = 59) (h1 : k.getD 1 0 = 106) (h2 : k.getD 2 0 = 39) (h3 : k.getD 3 0 = 188) (h : Spec Try.prog G 9 [.c (.sl 32 ((List.replicate 32 (0 : UInt8)).map bD))] (.many [.g (k.map bD), .c (.v (.int .i64 0))])) :
    Spec Try.prog G 6 [] (.one (.c (.v (.bool true)))) := by
  obtain ⟨z1, z2, z3⟩ := cd_facts (l := k.map bD) (n := 32) (by rw [List.length_map, lk])
  have hz : (List.replicate 32 (C.d (.v (.int .u8 0)))) = ((List.replicate 32 (0 : UInt8)).map bD).map C.d := rfl
  have hz2 : (List.replicate 32 [C.d (.v (.int .u8 0))]).flatten = ((List.replicate 32 (0 : UInt8)).map bD).map C.d := rfl
  have g := fun (i : Nat) (hi : i < 32) => bytesC_get (l := k) (k := i) (x := k.getD i 0) (by rw [List.getD_eq_getElem?_getD, List.getElem?_eq_getElem (by omega), Option.getD_some])
  have g0 : ((k.map bD).map C.d)[0]? = some (C.d (D.v (.int .u8 59))) := by
    rw [g 0 (by omega), h0]
    rfl
  have g1 : ((k.map bD).map C.d)[1]? = some (C.d (D.v (.int .u8 106))) := by
    rw [g 1 (by omega), h1]
    rfl
  have g2 : ((k.map bD).map C.d)[2]? = some (C.d (D.v (.int .u8 39))) := by
    rw [g 2 (by omega), h2]
    rfl
  have g3 : ((k.map bD).map C.d)[3]? = some (C.d (D.v (.int .u8 188))) := by
    rw [g 3 (by omega), h3]
    rfl
  clear g
  have lz : (List.replicate 32 (0 : UInt8)).length = 32 := List.length_replicate
  obtain ⟨y1, y2, y3⟩ := cd_facts (l := (List.replicate 32 (0 : UInt8)).map bD) (n := 32) (by rw [List.length_map, lz])
  generalize List.replicate 32 (0 : UInt8) = Z at *
  refine spec_of Try.func6 rfl rfl rfl (by kernel_rfl) rfl fun K => ?_
  (repeat' (first | with_reducible (first | refine zA fun Kn hK => ?_ | refine zB (by kernel_rfl) ?_ | refine zC (by kernel_rfl) (by kernel_rfl) ?_ | refine zD ?_ | refine zN ?_ | refine zF ?_ | refine zG ?_ | refine zH ?_ | (refine hK _ ?_; clear hK Kn) | (clear hK Kn; refine hK _ ?_; clear hK Kn) | (clear hK Kn; clear hK Kn; refine hK _ ?_; clear hK Kn)) | (refine ⟨none, ?_⟩) | (refine ⟨_, h, ?_⟩) | with_reducible (first | refine zI ?_ | refine zJ ?_ | refine zK ?_ ?_ | refine zL ?_ ?_ | refine And.intro (show logOk _ _ = true by kernel_rfl) ?_) | simp (maxSteps := 10000000) (disch := omega) only [wrap_id, wrap8, max_r, max_l, min_r, min_l] | (with_reducible refine zM (fun hb => ?_) (fun hb => ?_) <;> (try simp only [hb])) | (with_reducible refine And.intro (by first | omega | (simp; done) | (simp; omega)) ?_) | simp (maxSteps := 10000000) (implicitDefEqProofs := false) only [go_sem, Nat.reduceEqDiff, Nat.reduceBEq, ↓reduceIte, Nat.reduceAdd, Nat.reduceMul, Nat.reduceSub, Nat.reduceLeDiff, Nat.reduceLT, reduceCtorEq, Int.reduceLE, Int.reduceLT, Int.reduceToNat, Int.reduceBEq, hz, hz2, lz, y1, y2, y3, z1, z2, z3, g0, g1, g2, g3, lk, Nat.sub_self, List.replicate_zero, List.length_map, List.append_nil] | fail))
theorem awake_m : Spec Try.prog G 6 [] (.one (.c (.v (.bool true)))) := by
  have h := epub_m (G := G) (List.replicate 32 0) List.length_replicate
  rw [bytesD, List.length_replicate] at h
  exact awake_w (k := pubB (List.replicate 32 0)) (encB_len _) zerK_0 zerK_1 zerK_2 zerK_3 h
theorem verifies_m (a b c : List UInt8) : Spec Try.prog G 3 [.c (bytesD a), .c (bytesD b), .c (bytesD c)] (.one (.c (.v (.bool true)))) := by
  have hw := awake_m (G := G)
  by_cases ha : a.length ≤ 100
  · have d1 : decide ((a.length : Int) > 100) = false := decide_eq_false (by omega)
    by_cases hc : c.length ≤ 100
    · have d2 : decide ((c.length : Int) > 100) = false := decide_eq_false (by omega)
      by_cases hb : b.length ≤ 500
      · have d3 : decide ((b.length : Int) > 500) = false := decide_eq_false (by omega)
        have h1 := ever_m (G := G) a b c (by omega) (by omega) (by omega)
        have h2 := rver_m (G := G) a b c (by omega) (by omega) (by omega)
        generalize verB a b c = V at *
        unfold bytesD at *
        cases V
        all_goals
          refine spec_of Try.func3 rfl rfl rfl (by kernel_rfl) rfl fun K => ?_
          (repeat' (first | with_reducible (first | refine zA fun Kn hK => ?_ | refine zB (by kernel_rfl) ?_ | refine zC (by kernel_rfl) (by kernel_rfl) ?_ | refine zD ?_ | refine zN ?_ | refine zF ?_ | refine zG ?_ | refine zH ?_ | (refine hK _ ?_; clear hK Kn) | (clear hK Kn; refine hK _ ?_; clear hK Kn) | (clear hK Kn; clear hK Kn; refine hK _ ?_; clear hK Kn)) | (refine ⟨_, h1, ?_⟩) | (refine ⟨_, h2, ?_⟩) | (refine ⟨_, hw, ?_⟩) | with_reducible (first | refine zI ?_ | refine zJ ?_ | refine zK ?_ ?_ | refine zL ?_ ?_ | refine And.intro (show logOk _ _ = true by kernel_rfl) ?_) | simp (maxSteps := 10000000) (disch := omega) only [wrap_id, wrap8, max_r, max_l, min_r, min_l] | (with_reducible refine zM (fun hb => ?_) (fun hb => ?_) <;> (try simp only [hb])) | (with_reducible refine And.intro (by first | omega | (simp; done) | (simp; omega)) ?_) | simp (maxSteps := 10000000) (implicitDefEqProofs := false) only [go_sem, Nat.reduceEqDiff, Nat.reduceBEq, ↓reduceIte, Nat.reduceAdd, Nat.reduceMul, Nat.reduceSub, Nat.reduceLeDiff, Nat.reduceLT, reduceCtorEq, Int.reduceLE, Int.reduceLT, Int.reduceToNat, Int.reduceBEq, d1, d2, d3] | fail))
      · have d3 : decide ((b.length : Int) > 500) = true := decide_eq_true (by omega)
        refine spec_of Try.func3 rfl rfl rfl (by kernel_rfl) rfl fun K => ?_
        (repeat' (first | with_reducible (first | refine zA fun Kn hK => ?_ | refine zB (by kernel_rfl) ?_ | refine zC (by kernel_rfl) (by kernel_rfl) ?_ | refine zD ?_ | refine zN ?_ | refine zF ?_ | refine zG ?_ | refine zH ?_ | (refine hK _ ?_; clear hK Kn) | (clear hK Kn; refine hK _ ?_; clear hK Kn) | (clear hK Kn; clear hK Kn; refine hK _ ?_; clear hK Kn)) | (refine ⟨_, hw, ?_⟩) | with_reducible (first | refine zI ?_ | refine zJ ?_ | refine zK ?_ ?_ | refine zL ?_ ?_ | refine And.intro (show logOk _ _ = true by kernel_rfl) ?_) | simp (maxSteps := 10000000) (disch := omega) only [wrap_id, wrap8, max_r, max_l, min_r, min_l] | (with_reducible refine zM (fun hb => ?_) (fun hb => ?_) <;> (try simp only [hb])) | (with_reducible refine And.intro (by first | omega | (simp; done) | (simp; omega)) ?_) | simp (maxSteps := 10000000) (implicitDefEqProofs := false) only [go_sem, Nat.reduceEqDiff, Nat.reduceBEq, ↓reduceIte, Nat.reduceAdd, Nat.reduceMul, Nat.reduceSub, Nat.reduceLeDiff, Nat.reduceLT, reduceCtorEq, Int.reduceLE, Int.reduceLT, Int.reduceToNat, Int.reduceBEq, d1, d2, d3] | fail))
    · have d2 : decide ((c.length : Int) > 100) = true := decide_eq_true (by omega)
      refine spec_of Try.func3 rfl rfl rfl (by kernel_rfl) rfl fun K => ?_
      (repeat' (first | with_reducible (first | refine zA fun Kn hK => ?_ | refine zB (by kernel_rfl) ?_ | refine zC (by kernel_rfl) (by kernel_rfl) ?_ | refine zD ?_ | refine zN ?_ | refine zF ?_ | refine zG ?_ | refine zH ?_ | (refine hK _ ?_; clear hK Kn) | (clear hK Kn; refine hK _ ?_; clear hK Kn) | (clear hK Kn; clear hK Kn; refine hK _ ?_; clear hK Kn)) | (refine ⟨_, hw, ?_⟩) | with_reducible (first | refine zI ?_ | refine zJ ?_ | refine zK ?_ ?_ | refine zL ?_ ?_ | refine And.intro (show logOk _ _ = true by kernel_rfl) ?_) | simp (maxSteps := 10000000) (disch := omega) only [wrap_id, wrap8, max_r, max_l, min_r, min_l] | (with_reducible refine zM (fun hb => ?_) (fun hb => ?_) <;> (try simp only [hb])) | (with_reducible refine And.intro (by first | omega | (simp; done) | (simp; omega)) ?_) | simp (maxSteps := 10000000) (implicitDefEqProofs := false) only [go_sem, Nat.reduceEqDiff, Nat.reduceBEq, ↓reduceIte, Nat.reduceAdd, Nat.reduceMul, Nat.reduceSub, Nat.reduceLeDiff, Nat.reduceLT, reduceCtorEq, Int.reduceLE, Int.reduceLT, Int.reduceToNat, Int.reduceBEq, d1, d2] | fail))
  · have d1 : decide ((a.length : Int) > 100) = true := decide_eq_true (by omega)
    refine spec_of Try.func3 rfl rfl rfl (by kernel_rfl) rfl fun K => ?_
    (repeat' (first | with_reducible (first | refine zA fun Kn hK => ?_ | refine zB (by kernel_rfl) ?_ | refine zC (by kernel_rfl) (by kernel_rfl) ?_ | refine zD ?_ | refine zN ?_ | refine zF ?_ | refine zG ?_ | refine zH ?_ | (refine hK _ ?_; clear hK Kn) | (clear hK Kn; refine hK _ ?_; clear hK Kn) | (clear hK Kn; clear hK Kn; refine hK _ ?_; clear hK Kn)) | (refine ⟨_, hw, ?_⟩) | with_reducible (first | refine zI ?_ | refine zJ ?_ | refine zK ?_ ?_ | refine zL ?_ ?_ | refine And.intro (show logOk _ _ = true by kernel_rfl) ?_) | simp (maxSteps := 10000000) (disch := omega) only [wrap_id, wrap8, max_r, max_l, min_r, min_l] | (with_reducible refine zM (fun hb => ?_) (fun hb => ?_) <;> (try simp only [hb])) | (with_reducible refine And.intro (by first | omega | (simp; done) | (simp; omega)) ?_) | simp (maxSteps := 10000000) (implicitDefEqProofs := false) only [go_sem, Nat.reduceEqDiff, Nat.reduceBEq, ↓reduceIte, Nat.reduceAdd, Nat.reduceMul, Nat.reduceSub, Nat.reduceLeDiff, Nat.reduceLT, reduceCtorEq, Int.reduceLE, Int.reduceLT, Int.reduceToNat, Int.reduceBEq, d1] | fail))
end
theorem dargs_nil {w : World} {S : Nat → Prop} : DArgs w S [] [] := ⟨rfl, fun i x u hx => by simp at hx⟩
theorem dargs_cons {w : World} {S : Nat → Prop} {x : DV} {u : Value} {ds : List DV} {cs : List Value} (h : DRd w S x u) (k : DArgs w S ds cs) : DArgs w S (x :: ds) (u :: cs) :=
  ⟨by simp [k.1], fun i y v hy hv => by
    cases i with
    | zero =>
      simp at hy hv
      subst hy hv
      exact h
    | succ i => exact k.2 i y v (by simpa using hy) (by simpa using hv)⟩
/-- A law of data, called. -/
theorem law_calls {P : Program} {f : FuncId} {args : List DV} {vs : List Value} {W : World} (h : Spec P (fun _ => none) f args (.one (.c (.v (.bool true))))) (hA : DArgs W (fun b => b < W.heap.size) args vs) :
    Calls P f vs.toArray W fun e W' => e = .returned (.bool true) ∧ Below W.heap.size W W' := by
  refine Calls.mono (h W _ vs (fun b hb => hb) (fun g cs h => by cases h) hA) ?_
  rintro e W1 ⟨hE, u, rfl, hu⟩
  have hu : RD W1 _ (.v (.bool true)) u := hu
  cases hu
  exact ⟨rfl, belowE hE⟩
end Go.Proofs.Ytkpkiefebipbbaa
