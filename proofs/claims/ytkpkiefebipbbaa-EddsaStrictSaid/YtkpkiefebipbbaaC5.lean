/- Parts of the proof, laid together. -/
import Derived.Test.YtkpkiefebipbbaaC4
import Derived.RangeFuncBox
import Derived.RangeFuncFrom
import Derived.RangeFuncBound
import Derived.RangeFuncCalls
import Derived.RangeFuncLeaves
import Derived.Shelf.Abstract
import Derived.Shelf.RegionOpen
import Derived.WalkKit
import Derived.OwnWalkIn
import Derived.TacticsInMore
import Derived.LoopNIn
import Derived.LoopIn
set_option linter.unusedVariables false
set_option linter.unusedSimpArgs false
set_option maxRecDepth 100000
set_option maxHeartbeats 8000000
/- Sixteen digits: sums, and what is left. -/
namespace Go.Proofs.Ytkpkiefebipbbaa
open Go.RowKit
end Go.Proofs.Ytkpkiefebipbbaa
/- Sixteen digits: less one another. -/
namespace Go.Proofs.Ytkpkiefebipbbaa
open Go.RowKit
end Go.Proofs.Ytkpkiefebipbbaa
/- Sixteen digits: products. -/
namespace Go.Proofs.Ytkpkiefebipbbaa
open Go.RowKit
end Go.Proofs.Ytkpkiefebipbbaa
/- Sixteen digits: of a number; powers. -/
namespace Go.Proofs.Ytkpkiefebipbbaa
open Go.RowKit
end Go.Proofs.Ytkpkiefebipbbaa
/- Sixteen digits: powers, what times it is one. -/
namespace Go.Proofs.Ytkpkiefebipbbaa
open Go.RowKit
end Go.Proofs.Ytkpkiefebipbbaa
/- Sixteen digits: of bytes. -/
namespace Go.Proofs.Ytkpkiefebipbbaa
open Go.RowKit
end Go.Proofs.Ytkpkiefebipbbaa
/- Numbers of four words. -/
namespace Go.Proofs.Ytkpkiefebipbbaa
open Go.RowKit
def w4 (n : Nat) : List Nat := [n % 18446744073709551616, n / 18446744073709551616 % 18446744073709551616, n / 340282366920938463463374607431768211456 % 18446744073709551616, n / 6277101735386680763835789423207666416102355444464034512896 % 18446744073709551616]
theorem w4_len (n : Nat) : (w4 n).length = 4 := rfl
theorem w4_val {n : Nat} (h : n < 115792089237316195423570985008687907853269984665640564039457584007913129639936) :
    n = n % 18446744073709551616 + 18446744073709551616 * (n / 18446744073709551616 % 18446744073709551616) + 340282366920938463463374607431768211456 * (n / 340282366920938463463374607431768211456 % 18446744073709551616) + 6277101735386680763835789423207666416102355444464034512896 * (n / 6277101735386680763835789423207666416102355444464034512896 % 18446744073709551616) := by
  omega
theorem w4_of {a b c d : Nat} (ha : a < 18446744073709551616) (hb : b < 18446744073709551616) (hc : c < 18446744073709551616) (hd : d < 18446744073709551616) :
    w4 (a + 18446744073709551616 * b + 340282366920938463463374607431768211456 * c + 6277101735386680763835789423207666416102355444464034512896 * d) = [a, b, c, d] := by
  have h0 : (a + 18446744073709551616 * b + 340282366920938463463374607431768211456 * c + 6277101735386680763835789423207666416102355444464034512896 * d) % 18446744073709551616 = a := by omega
  have h1 : (a + 18446744073709551616 * b + 340282366920938463463374607431768211456 * c + 6277101735386680763835789423207666416102355444464034512896 * d) / 18446744073709551616 % 18446744073709551616 = b := by omega
  have h2 : (a + 18446744073709551616 * b + 340282366920938463463374607431768211456 * c + 6277101735386680763835789423207666416102355444464034512896 * d) / 340282366920938463463374607431768211456 % 18446744073709551616 = c := by omega
  have h3 : (a + 18446744073709551616 * b + 340282366920938463463374607431768211456 * c + 6277101735386680763835789423207666416102355444464034512896 * d) / 6277101735386680763835789423207666416102355444464034512896 % 18446744073709551616 = d := by omega
  rw [w4, h0, h1, h2, h3]
/-- One word less another one. -/
def subD (x y c : Nat) : Nat := (x + 18446744073709551616 - y - c) % 18446744073709551616
def subC (x y c : Nat) : Nat := if x < y + c then 1 else 0
theorem sub_limb {x y c : Nat} (hx : x < 18446744073709551616) (hy : y < 18446744073709551616) (hc : c ≤ 1) : subD x y c + y + c = x + 18446744073709551616 * subC x y c ∧ subD x y c < 18446744073709551616 ∧ subC x y c ≤ 1 := by
  unfold subD subC
  split <;> omega
def lessS (A B : List Nat) : Nat → List Nat × Nat
  | 0 => (A, 0)
  | k + 1 => ((lessS A B k).1.set k (subD ((lessS A B k).1.getD k 0) (B.getD k 0) (lessS A B k).2), subC ((lessS A B k).1.getD k 0) (B.getD k 0) (lessS A B k).2)
theorem lessS_len (A B : List Nat) : ∀ k, (lessS A B k).1.length = A.length
  | 0 => rfl
  | k + 1 => by rw [lessS, List.length_set, lessS_len]
theorem lessS_le (A B : List Nat) : ∀ k, (lessS A B k).2 ≤ 1
  | 0 => by simp [lessS]
  | k + 1 => by
    rw [lessS, subC]
    split <;> omega
theorem lessS_ok {a b : Nat} (ha : a < 115792089237316195423570985008687907853269984665640564039457584007913129639936) (hb : b < 115792089237316195423570985008687907853269984665640564039457584007913129639936) :
    (lessS (w4 a) (w4 b) 4).1 = w4 ((a + 115792089237316195423570985008687907853269984665640564039457584007913129639936 - b) % 115792089237316195423570985008687907853269984665640564039457584007913129639936) ∧ (lessS (w4 a) (w4 b) 4).2 = if a < b then 1 else 0 := by
  have va := w4_val ha
  have vb := w4_val hb
  have l0 : a % 18446744073709551616 < 18446744073709551616 := Nat.mod_lt _ (by omega)
  have l1 : a / 18446744073709551616 % 18446744073709551616 < 18446744073709551616 := Nat.mod_lt _ (by omega)
  have l2 : a / 340282366920938463463374607431768211456 % 18446744073709551616 < 18446744073709551616 := Nat.mod_lt _ (by omega)
  have l3 : a / 6277101735386680763835789423207666416102355444464034512896 % 18446744073709551616 < 18446744073709551616 := Nat.mod_lt _ (by omega)
  have m0 : b % 18446744073709551616 < 18446744073709551616 := Nat.mod_lt _ (by omega)
  have m1 : b / 18446744073709551616 % 18446744073709551616 < 18446744073709551616 := Nat.mod_lt _ (by omega)
  have m2 : b / 340282366920938463463374607431768211456 % 18446744073709551616 < 18446744073709551616 := Nat.mod_lt _ (by omega)
  have m3 : b / 6277101735386680763835789423207666416102355444464034512896 % 18446744073709551616 < 18446744073709551616 := Nat.mod_lt _ (by omega)
  show [subD _ _ _, subD _ _ _, subD _ _ _, subD _ _ _] = _ ∧ subC _ _ _ = _
  simp only [w4, lessS, List.set_cons_zero, List.set_cons_succ, List.getD_cons_zero, List.getD_cons_succ]
  rw [show ∀ x y z u : Nat, ([x, y, z, u] : List Nat) = [x, y, z, u] from fun _ _ _ _ => rfl]
  generalize a % 18446744073709551616 = a0 at *
  generalize a / 18446744073709551616 % 18446744073709551616 = a1 at *
  generalize a / 340282366920938463463374607431768211456 % 18446744073709551616 = a2 at *
  generalize a / 6277101735386680763835789423207666416102355444464034512896 % 18446744073709551616 = a3 at *
  generalize b % 18446744073709551616 = b0 at *
  generalize b / 18446744073709551616 % 18446744073709551616 = b1 at *
  generalize b / 340282366920938463463374607431768211456 % 18446744073709551616 = b2 at *
  generalize b / 6277101735386680763835789423207666416102355444464034512896 % 18446744073709551616 = b3 at *
  obtain ⟨p0, p1, p2⟩ := sub_limb l0 m0 (c := 0) (by omega)
  generalize subD a0 b0 0 = d0 at *
  generalize subC a0 b0 0 = c0 at *
  obtain ⟨q0, q1, q2⟩ := sub_limb l1 m1 p2
  generalize subD a1 b1 c0 = d1 at *
  generalize subC a1 b1 c0 = c1 at *
  obtain ⟨r0, r1, r2⟩ := sub_limb l2 m2 q2
  generalize subD a2 b2 c1 = d2 at *
  generalize subC a2 b2 c1 = c2 at *
  obtain ⟨s0, s1, s2⟩ := sub_limb l3 m3 r2
  generalize subD a3 b3 c2 = d3 at *
  generalize subC a3 b3 c2 = c3 at *
  have hw := w4_of p1 q1 r1 s1
  have hv : (a + 115792089237316195423570985008687907853269984665640564039457584007913129639936 - b) % 115792089237316195423570985008687907853269984665640564039457584007913129639936 = d0 + 18446744073709551616 * d1 + 340282366920938463463374607431768211456 * d2 + 6277101735386680763835789423207666416102355444464034512896 * d3 := by
    have : c3 = 0 ∨ c3 = 1 := by omega
    rcases this with h | h <;> subst h <;> omega
  refine ⟨?_, ?_⟩
  · have hw' := hw
    rw [← hv] at hw'
    unfold w4 at hw'
    exact hw'.symm
  · have : c3 = 0 ∨ c3 = 1 := by omega
    rcases this with h | h <;> subst h
    · rw [if_neg (by omega)]
    · rw [if_pos (by omega)]
end Go.Proofs.Ytkpkiefebipbbaa
/- Words, less one another; the order. -/
namespace Go.Proofs.Ytkpkiefebipbbaa
open Go.RowKit
theorem ext_sub (x y b : Nat) (hb : b ≤ 1) : ExtV Try.prog 94 [.int .u64 (x : Int), .int .u64 (y : Int), .int .u64 (b : Int)] [.int .u64 (subD x y b : Nat), .int .u64 (subC x y b : Nat)] := by
  refine ⟨rfl, fun w => ?_⟩
  show (callFunc _ #[_, _, _]).run _ w = _
  rw [run_callFunc_extern Try.func94 (by kernel_rfl) (by kernel_rfl) (by kernel_rfl) (e := sub64Entry) (by kernel_rfl), run_sub64 x y b hb]
  rfl
/-- The order of the base. -/
def lQ : Nat := 7237005577332262213973186563042994240857116359379907606001950938285454250989
theorem order_m {G : Nat → Option (List D)} : Spec Try.prog G 89 [] (.one (.g ((w4 lQ).map nD))) := by
  have h : (w4 lQ).map nD = [nD 6346243789798364141, nD 1503914060200516822, nD 0, nD 1152921504606846976] := by
    rw [show w4 lQ = [6346243789798364141, 1503914060200516822, 0, 1152921504606846976] by decide +kernel]
    rfl
  rw [h]
  refine spec_of Try.func89 rfl rfl rfl (by kernel_rfl) rfl fun K => ?_
  (repeat' (first | with_reducible (first | refine zA fun Kn hK => ?_ | refine zB (by kernel_rfl) ?_ | refine zC (by kernel_rfl) (by kernel_rfl) ?_ | refine zD ?_ | refine zN ?_ | refine zF ?_ | refine zG ?_ | refine zH ?_ | (refine hK _ ?_; clear hK Kn) | (clear hK Kn; refine hK _ ?_; clear hK Kn) | (clear hK Kn; clear hK Kn; refine hK _ ?_; clear hK Kn)) | fail | with_reducible (first | refine zI ?_ | refine zJ ?_ | refine zK ?_ ?_ | refine zL ?_ ?_ | refine And.intro (show logOk _ _ = true by kernel_rfl) ?_) | simp (maxSteps := 10000000) (disch := omega) only [wrap_id, wrap8, max_r, max_l, min_r, min_l] | (with_reducible refine zM (fun hb => ?_) (fun hb => ?_) <;> (try simp only [hb])) | (with_reducible refine And.intro (by first | omega | (simp; done) | (simp; omega)) ?_) | simp (maxSteps := 10000000) (implicitDefEqProofs := false) only [go_sem, Nat.reduceEqDiff, Nat.reduceBEq, ↓reduceIte, Nat.reduceAdd, Nat.reduceMul, Nat.reduceSub, Nat.reduceLeDiff, Nat.reduceLT, reduceCtorEq, Int.reduceLE, Int.reduceLT, Int.reduceToNat, Int.reduceBEq, List.append_nil] | fail))
  all_goals rfl
theorem less_m {G : Nat → Option (List D)} (a b : Nat) (ha : a < 115792089237316195423570985008687907853269984665640564039457584007913129639936) (hb : b < 115792089237316195423570985008687907853269984665640564039457584007913129639936) :
    Spec Try.prog G 90 [.g ((w4 a).map nD), .g ((w4 b).map nD)] (.many [.g ((w4 ((a + 115792089237316195423570985008687907853269984665640564039457584007913129639936 - b) % 115792089237316195423570985008687907853269984665640564039457584007913129639936)).map nD), .c (.v (.bool (decide (a < b))))]) := by
  obtain ⟨h1, h2⟩ := lessS_ok ha hb
  have h3 : decide (((lessS (w4 a) (w4 b) 4).2 : Int) > 0) = decide (a < b) := by
    rw [h2]
    split
    · rename_i h; rw [decide_eq_true h]; rfl
    · rename_i h; rw [decide_eq_false h]; rfl
  rw [← h1, ← h3]
  have la := w4_len a
  have lb := w4_len b
  clear h1 h2 h3
  generalize w4 a = A at *
  generalize w4 b = B at *
  obtain ⟨a1, a2, a3⟩ := cd_facts (l := A.map nD) (n := 4) (by rw [List.length_map]; exact la)
  obtain ⟨b1, b2, b3⟩ := cd_facts (l := B.map nD) (n := 4) (by rw [List.length_map]; exact lb)
  refine spec_of Try.func90 rfl rfl rfl (by kernel_rfl) rfl fun K => ?_
  (repeat' (first | with_reducible (first | refine zA fun Kn hK => ?_ | refine zB (by kernel_rfl) ?_ | refine zC (by kernel_rfl) (by kernel_rfl) ?_ | refine zD ?_ | refine zN ?_ | refine zF ?_ | refine zG ?_ | refine zH ?_ | (refine hK _ ?_; clear hK Kn) | (clear hK Kn; refine hK _ ?_; clear hK Kn) | (clear hK Kn; clear hK Kn; refine hK _ ?_; clear hK Kn)) | fail | with_reducible (first | refine zI ?_ | refine zJ ?_ | refine zK ?_ ?_ | refine zL ?_ ?_ | refine And.intro (show logOk _ _ = true by kernel_rfl) ?_) | simp (maxSteps := 10000000) (disch := omega) only [wrap_id, wrap8, max_r, max_l, min_r, min_l] | (with_reducible refine zM (fun hb => ?_) (fun hb => ?_) <;> (try simp only [hb])) | (with_reducible refine And.intro (by first | omega | (simp; done) | (simp; omega)) ?_) | simp (maxSteps := 10000000) (implicitDefEqProofs := false) only [go_sem, Nat.reduceEqDiff, Nat.reduceBEq, ↓reduceIte, Nat.reduceAdd, Nat.reduceMul, Nat.reduceSub, Nat.reduceLeDiff, Nat.reduceLT, reduceCtorEq, Int.reduceLE, Int.reduceLT, Int.reduceToNat, Int.reduceBEq, List.length_map, la, lb, a1, a2, a3, b1, b2, b3, List.append_nil] | fail))
  refine sound_loopR (fun x : {k : Nat // k ≤ 4} => ⟨[(2, vP 2 0), (3, vP 3 0), (4, vP 4 0), (6, .a (.c (.d (nD (lessS A B x.1).2)))), (8, vI x.1)], [(2, some ⟨97, ((lessS A B x.1).1.map nD).map C.d, true, false⟩), (3, some ⟨97, (B.map nD).map C.d, true, false⟩), (4, some ⟨97, zeroOf Try.prog 97, true, false⟩)]⟩) (fun x => 4 - x.1) ⟨0, by omega⟩ [] (by (iterate 2 ((try simp (maxSteps := 10000000) (implicitDefEqProofs := false) only [go_sem, Nat.reduceEqDiff, Nat.reduceBEq, ↓reduceIte, Nat.reduceAdd, Nat.reduceMul, Nat.reduceSub, Nat.reduceLeDiff, Nat.reduceLT, reduceCtorEq, Int.reduceLE, Int.reduceLT, Int.reduceToNat, Int.reduceBEq, true_and]); (try simp (maxSteps := 10000000) (disch := omega) only [wrap_id, wrap8, max_r, max_l, min_r, min_l]))); try simp [lessS]) (fun ⟨k, hk⟩ => ?_)
  have hlk := lessS_len A B k
  rw [la] at hlk
  by_cases hlt : k < 4
  · have hb : decide ((k : Int) < 4) = true := decide_eq_true (by omega)
    have hg1 := numsC_get (l := (lessS A B k).1) (k := k) (by omega)
    have hg2 := numsC_get (l := B) (k := k) (by omega)
    have hx := ext_sub ((lessS A B k).1.getD k 0) (B.getD k 0) (lessS A B k).2 (lessS_le A B k)
    (repeat' (first | with_reducible (first | refine zA fun Kn hK => ?_ | refine zB (by kernel_rfl) ?_ | refine zC (by kernel_rfl) (by kernel_rfl) ?_ | refine zD ?_ | refine zN ?_ | refine zF ?_ | refine zG ?_ | refine zH ?_ | (refine hK _ ?_; clear hK Kn) | (clear hK Kn; refine hK _ ?_; clear hK Kn) | (clear hK Kn; clear hK Kn; refine hK _ ?_; clear hK Kn)) | (refine ⟨_, hx, ?_⟩) | with_reducible (first | refine zI ?_ | refine zJ ?_ | refine zK ?_ ?_ | refine zL ?_ ?_ | refine And.intro (show logOk _ _ = true by kernel_rfl) ?_) | simp (maxSteps := 10000000) (disch := omega) only [wrap_id, wrap8, max_r, max_l, min_r, min_l] | (with_reducible refine zM (fun hb => ?_) (fun hb => ?_) <;> (try simp only [hb])) | (with_reducible refine And.intro (by first | omega | (simp; done) | (simp; omega)) ?_) | simp (maxSteps := 10000000) (implicitDefEqProofs := false) only [go_sem, Nat.reduceEqDiff, Nat.reduceBEq, ↓reduceIte, Nat.reduceAdd, Nat.reduceMul, Nat.reduceSub, Nat.reduceLeDiff, Nat.reduceLT, reduceCtorEq, Int.reduceLE, Int.reduceLT, Int.reduceToNat, Int.reduceBEq, hb, List.length_map, List.length_set, hlk, lb, hg1, hg2] | fail))
    refine ⟨[], ⟨k + 1, hlt⟩, ?_⟩
    (iterate 2 ((try simp (maxSteps := 10000000) (implicitDefEqProofs := false) only [go_sem, Nat.reduceEqDiff, Nat.reduceBEq, ↓reduceIte, Nat.reduceAdd, Nat.reduceMul, Nat.reduceSub, Nat.reduceLeDiff, Nat.reduceLT, reduceCtorEq, Int.reduceLE, Int.reduceLT, Int.reduceToNat, Int.reduceBEq, lessS]); (try simp (maxSteps := 10000000) (disch := omega) only [wrap_id, wrap8, max_r, max_l, min_r, min_l])))
    try (simp only [SV.a.injEq, AV.c.injEq, C.d.injEq, D.v.injEq, Value.int.injEq, true_and, and_true, DR.one.injEq, DV.c.injEq, OutO.ret.injEq]; first | done | omega | (split <;> omega) | (simp; done) | (simp; omega))
  · have hb : decide ((k : Int) < 4) = false := decide_eq_false (by omega)
    obtain rfl : k = 4 := by omega
    obtain ⟨c1, c2, c3⟩ := cd_facts (l := (lessS A B 4).1.map nD) (n := 4) (by rw [List.length_map]; exact hlk)
    generalize lessS A B 4 = R at *
    (repeat' (first | with_reducible (first | refine zA fun Kn hK => ?_ | refine zB (by kernel_rfl) ?_ | refine zC (by kernel_rfl) (by kernel_rfl) ?_ | refine zD ?_ | refine zN ?_ | refine zF ?_ | refine zG ?_ | refine zH ?_ | (refine hK _ ?_; clear hK Kn) | (clear hK Kn; refine hK _ ?_; clear hK Kn) | (clear hK Kn; clear hK Kn; refine hK _ ?_; clear hK Kn)) | fail | with_reducible (first | refine zI ?_ | refine zJ ?_ | refine zK ?_ ?_ | refine zL ?_ ?_ | refine And.intro (show logOk _ _ = true by kernel_rfl) ?_) | simp (maxSteps := 10000000) (disch := omega) only [wrap_id, wrap8, max_r, max_l, min_r, min_l] | (with_reducible refine zM (fun hb => ?_) (fun hb => ?_) <;> (try simp only [hb])) | (with_reducible refine And.intro (by first | omega | (simp; done) | (simp; omega)) ?_) | simp (maxSteps := 10000000) (implicitDefEqProofs := false) only [go_sem, Nat.reduceEqDiff, Nat.reduceBEq, ↓reduceIte, Nat.reduceAdd, Nat.reduceMul, Nat.reduceSub, Nat.reduceLeDiff, Nat.reduceLT, reduceCtorEq, Int.reduceLE, Int.reduceLT, Int.reduceToNat, Int.reduceBEq, hb, List.length_map, hlk, c1, c2, c3, List.append_nil] | fail))
end Go.Proofs.Ytkpkiefebipbbaa
/- A rest by the order; a number's bytes. -/
namespace Go.Proofs.Ytkpkiefebipbbaa
open Go.RowKit
def shS (l : List Nat) (c : Nat) : Nat → List Nat × Nat
  | 0 => (l, c)
  | k + 1 => ((shS l c k).1.set k ((shS l c k).1.getD k 0 * 2 % 18446744073709551616 + (shS l c k).2), (shS l c k).1.getD k 0 / 9223372036854775808)
theorem shS_len (l : List Nat) (c : Nat) : ∀ k, (shS l c k).1.length = l.length
  | 0 => rfl
  | k + 1 => by rw [shS, List.length_set, shS_len]
theorem shS_lt {l : List Nat} {c : Nat} (h : ∀ x ∈ l, x < 18446744073709551616) (hc : c ≤ 1) : ∀ k, (∀ x ∈ (shS l c k).1, x < 18446744073709551616) ∧ (shS l c k).2 ≤ 1
  | 0 => ⟨h, hc⟩
  | k + 1 => by
    obtain ⟨h1, h2⟩ := shS_lt h hc k
    rw [shS]
    have hx : (shS l c k).1.getD k 0 < 18446744073709551616 := by
      rw [List.getD_eq_getElem?_getD]
      rcases he : (shS l c k).1[k]? with _ | x
      · decide
      · exact h1 x (List.mem_of_getElem? he)
    generalize (shS l c k).1.getD k 0 = y at *
    refine ⟨fun x hx => ?_, by dsimp only; omega⟩
    rcases List.mem_or_eq_of_mem_set hx with h | h
    · exact h1 x h
    · rw [h]; omega
theorem w4_lt {n : Nat} : ∀ x ∈ w4 n, x < 18446744073709551616 := by
  intro x hx
  simp only [w4, List.mem_cons, List.not_mem_nil, or_false] at hx
  rcases hx with h | h | h | h <;> rw [h] <;> exact Nat.mod_lt _ (by decide)
theorem sh_limb {x : Nat} (hx : x < 18446744073709551616) : x * 2 % 18446744073709551616 + 18446744073709551616 * (x / 9223372036854775808) = x * 2 ∧ x * 2 % 18446744073709551616 + 1 < 18446744073709551616 := by omega
theorem shS_ok {n c : Nat} (h : n < 28948022309329048855892746252171976963317496166410141009864396001978282409984) (hc : c ≤ 1) : (shS (w4 n) c 4).1 = w4 (2 * n + c) := by
  have v := w4_val (n := n) (by omega)
  have l0 : n % 18446744073709551616 < 18446744073709551616 := Nat.mod_lt _ (by omega)
  have l1 : n / 18446744073709551616 % 18446744073709551616 < 18446744073709551616 := Nat.mod_lt _ (by omega)
  have l2 : n / 340282366920938463463374607431768211456 % 18446744073709551616 < 18446744073709551616 := Nat.mod_lt _ (by omega)
  have l3 : n / 6277101735386680763835789423207666416102355444464034512896 % 18446744073709551616 < 18446744073709551616 := Nat.mod_lt _ (by omega)
  simp only [w4, shS, List.set_cons_zero, List.set_cons_succ, List.getD_cons_zero, List.getD_cons_succ]
  generalize n % 18446744073709551616 = a0 at *
  generalize n / 18446744073709551616 % 18446744073709551616 = a1 at *
  generalize n / 340282366920938463463374607431768211456 % 18446744073709551616 = a2 at *
  generalize n / 6277101735386680763835789423207666416102355444464034512896 % 18446744073709551616 = a3 at *
  obtain ⟨p0, p1⟩ := sh_limb l0
  obtain ⟨q0, q1⟩ := sh_limb l1
  obtain ⟨r0, r1⟩ := sh_limb l2
  obtain ⟨s0, s1⟩ := sh_limb l3
  have c0 : a0 / 9223372036854775808 ≤ 1 := by omega
  have c1 : a1 / 9223372036854775808 ≤ 1 := by omega
  have c2 : a2 / 9223372036854775808 ≤ 1 := by omega
  have c3 : a3 / 9223372036854775808 ≤ 1 := by omega
  generalize a0 * 2 % 18446744073709551616 = d0 at *
  generalize a1 * 2 % 18446744073709551616 = d1 at *
  generalize a2 * 2 % 18446744073709551616 = d2 at *
  generalize a3 * 2 % 18446744073709551616 = d3 at *
  generalize a0 / 9223372036854775808 = e0 at *
  generalize a1 / 9223372036854775808 = e1 at *
  generalize a2 / 9223372036854775808 = e2 at *
  generalize a3 / 9223372036854775808 = e3 at *
  have hw := w4_of (a := d0 + c) (b := d1 + e0) (c := d2 + e1) (d := d3 + e2) (by omega) (by omega) (by omega) (by omega)
  have hv : 2 * n + c = d0 + c + 18446744073709551616 * (d1 + e0) + 340282366920938463463374607431768211456 * (d2 + e1) + 6277101735386680763835789423207666416102355444464034512896 * (d3 + e2) := by omega
  have hw' := hw
  rw [← hv] at hw'
  unfold w4 at hw'
  exact hw'.symm
theorem pow_63 : (2 : Nat) ^ min 63 64 = 9223372036854775808 := by decide
theorem pow_1 : (2 : Nat) ^ min 1 64 = 2 := by decide
theorem or_bit {x c : Nat} (hc : c ≤ 1) : (x * 2 % 18446744073709551616 % 18446744073709551616) ||| (c % 18446744073709551616) = x * 2 % 18446744073709551616 + c := by
  rw [Nat.mod_mod, Nat.mod_eq_of_lt (show c < 18446744073709551616 by omega)]
  have h := Nat.shiftLeft_add_eq_or_of_lt (b := c) (i := 1) (by omega) (x % 9223372036854775808)
  rw [Nat.shiftLeft_eq] at h
  have e : x * 2 % 18446744073709551616 = x % 9223372036854775808 * 2 ^ 1 := by omega
  rw [e, h]
/-- The bits of a byte that have come. -/
def restV (r y i : Nat) : Nat := (r * 2 ^ i + y / 2 ^ (8 - i)) % lQ
theorem restV_step {r y i : Nat} (hi : i < 8) : restV r y (i + 1) = (2 * restV r y i + y / 2 ^ (7 - i) % 2) % lQ := by
  have e : 8 - i = (7 - i) + 1 := by omega
  unfold restV
  rw [show 8 - (i + 1) = 7 - i by omega, e, Nat.pow_succ, Nat.pow_succ, ← Nat.div_div_eq_div_mul]
  have h := Nat.div_add_mod (y / 2 ^ (7 - i)) 2
  generalize y / 2 ^ (7 - i) = z at *
  rw [Nat.add_mod (2 * _), Nat.mul_mod 2, Nat.mod_mod, ← Nat.mul_mod, ← Nat.add_mod]
  congr 1
  rw [Nat.mul_add, ← Nat.mul_assoc r]
  generalize r * 2 ^ i = u
  omega
theorem lQ_lit : lQ = 7237005577332262213973186563042994240857116359379907606001950938285454250989 := rfl
theorem rest_cut {v : Nat} (h : v < 2 * lQ) : v % lQ = if v < lQ then v else (v + 115792089237316195423570985008687907853269984665640564039457584007913129639936 - lQ) % 115792089237316195423570985008687907853269984665640564039457584007913129639936 := by
  rw [lQ_lit] at *
  split <;> omega
theorem rest_m {G : Nat → Option (List D)} (r : Nat) (y : UInt8) (hr : r < lQ) : Spec Try.prog G 65 [.g ((w4 r).map nD), .c (bD y)] (.one (.g ((w4 ((r * 256 + y.toNat) % lQ)).map nD))) := by
  have hyl : y.toNat < 256 := y.toNat_lt
  have ho := order_m (G := G)
  have hL : ∀ n, ((w4 n).map nD).length = 4 := fun n => by rw [List.length_map]; rfl
  have h0 : restV r y.toNat 0 = r := by
    unfold restV
    rw [Nat.div_eq_of_lt (by omega), Nat.pow_zero, Nat.mul_one, Nat.add_zero, Nat.mod_eq_of_lt hr]
  have h8 : restV r y.toNat 8 = (r * 256 + y.toNat) % lQ := by
    unfold restV
    rw [Nat.sub_self, Nat.pow_zero, Nat.div_one]
  rw [← h8]
  have hRl : ∀ i, restV r y.toNat i < lQ := fun i => Nat.mod_lt _ (by decide +kernel)
  have hstep := fun i (h : i < 8) => restV_step (r := r) (y := y.toNat) h
  generalize hR : restV r y.toNat = R at *
  have hlen4 : ∀ n, (w4 n).length = 4 := w4_len
  obtain ⟨a1, a2, a3⟩ := cd_facts (hL r)
  obtain ⟨b1, b2, b3⟩ := cd_facts (hL lQ)
  have hbD : bD y = D.v (.int .u8 (y.toNat : Int)) := rfl
  rw [hbD]
  generalize hw : w4 r = wr at *
  have lwr : wr.length = 4 := by rw [← hw]; rfl
  generalize hwl : w4 lQ = wl at *
  have lwl : wl.length = 4 := by rw [← hwl]; rfl
  refine spec_of Try.func65 rfl rfl rfl (by kernel_rfl) rfl fun K => ?_
  (repeat' (first | with_reducible (first | refine zA fun Kn hK => ?_ | refine zB (by kernel_rfl) ?_ | refine zC (by kernel_rfl) (by kernel_rfl) ?_ | refine zD ?_ | refine zN ?_ | refine zF ?_ | refine zG ?_ | refine zH ?_ | (refine hK _ ?_; clear hK Kn) | (clear hK Kn; refine hK _ ?_; clear hK Kn) | (clear hK Kn; clear hK Kn; refine hK _ ?_; clear hK Kn)) | (refine ⟨_, ho, ?_⟩) | with_reducible (first | refine zI ?_ | refine zJ ?_ | refine zK ?_ ?_ | refine zL ?_ ?_ | refine And.intro (show logOk _ _ = true by kernel_rfl) ?_) | simp (maxSteps := 10000000) (disch := omega) only [wrap_id, wrap8, max_r, max_l, min_r, min_l] | (with_reducible refine zM (fun hb => ?_) (fun hb => ?_) <;> (try simp only [hb])) | (with_reducible refine And.intro (by first | omega | (simp; done) | (simp; omega)) ?_) | simp (maxSteps := 10000000) (implicitDefEqProofs := false) only [go_sem, Nat.reduceEqDiff, Nat.reduceBEq, ↓reduceIte, Nat.reduceAdd, Nat.reduceMul, Nat.reduceSub, Nat.reduceLeDiff, Nat.reduceLT, reduceCtorEq, Int.reduceLE, Int.reduceLT, Int.reduceToNat, Int.reduceBEq, List.length_map, lwr, lwl, a1, a2, a3, b1, b2, b3, List.append_nil] | fail))
  refine sound_loopR (fun x : {k : Nat // k ≤ 8} => ⟨[(1, .a (.c (.d (.v (.int .u8 (y.toNat : Int)))))), (2, vP 2 0), (4, vP 4 0), (5, vP 5 0), (12, vI x.1)], [(2, some ⟨97, ((w4 (R x.1)).map nD).map C.d, true, false⟩), (4, some ⟨97, zeroOf Try.prog 97, true, false⟩), (5, some ⟨97, (wl.map nD).map C.d, true, false⟩)]⟩) (fun x => 8 - x.1) ⟨0, by omega⟩ [] (by (iterate 2 ((try simp (maxSteps := 10000000) (implicitDefEqProofs := false) only [go_sem, Nat.reduceEqDiff, Nat.reduceBEq, ↓reduceIte, Nat.reduceAdd, Nat.reduceMul, Nat.reduceSub, Nat.reduceLeDiff, Nat.reduceLT, reduceCtorEq, Int.reduceLE, Int.reduceLT, Int.reduceToNat, Int.reduceBEq, true_and]); (try simp (maxSteps := 10000000) (disch := omega) only [wrap_id, wrap8, max_r, max_l, min_r, min_l]))); try simp [h0, hw]) (fun ⟨i, hi⟩ => ?_)
  by_cases hlt : i < 8
  · obtain ⟨j, hj⟩ : ∃ j, 7 - i = j := ⟨_, rfl⟩
    have hb : decide ((i : Int) < 8) = true := decide_eq_true (by omega)
    have e1 : (7 : Int) - (i : Int) = (j : Int) := by omega
    have hm1 : min j 8 = j := by omega
    have hj0 : (0 : Int) ≤ (j : Int) := by omega
    have hbit : y.toNat / 2 ^ min j 8 % 256 % 2 % 18446744073709551616 = y.toNat / 2 ^ j % 2 := by
      rw [hm1, Nat.mod_mod_of_dvd _ (show 2 ∣ 256 by decide)]
      exact Nat.mod_eq_of_lt (Nat.lt_trans (Nat.mod_lt _ (by omega)) (by decide))
    have hs1 := hstep i hlt
    rw [hj] at hs1
    have hRi := hRl i
    have hbl : y.toNat / 2 ^ j % 2 ≤ 1 := by have := Nat.mod_lt (y.toNat / 2 ^ j) (show 0 < 2 by omega); omega
    generalize y.toNat / 2 ^ j % 2 = bit at *
    have hsh := shS_ok (n := R i) (c := bit) (by rw [lQ_lit] at hRi; omega) hbl
    have hwl0 := w4_lt (n := R i)
    have hLi := hlen4 (R i)
    have hxl : 2 * R i + bit < 2 * lQ := by omega
    have hcut := rest_cut hxl
    rw [← hs1] at hcut
    have hle := less_m (G := G) (2 * R i + bit) lQ (by rw [lQ_lit] at hxl; omega) (by decide +kernel)
    rw [hwl, ← hsh] at hle
    obtain ⟨g1, g2, g3⟩ := cd_facts (hL ((2 * R i + bit + 115792089237316195423570985008687907853269984665640564039457584007913129639936 - lQ) % 115792089237316195423570985008687907853269984665640564039457584007913129639936))
    have hLd := hlen4 ((2 * R i + bit + 115792089237316195423570985008687907853269984665640564039457584007913129639936 - lQ) % 115792089237316195423570985008687907853269984665640564039457584007913129639936)
    generalize hV : 2 * R i + bit = V at *
    have hcutW : w4 (R (i + 1)) = if V < lQ then w4 V else w4 ((V + 115792089237316195423570985008687907853269984665640564039457584007913129639936 - lQ) % 115792089237316195423570985008687907853269984665640564039457584007913129639936) := by
      rw [hcut]
      split <;> rfl
    generalize w4 ((V + 115792089237316195423570985008687907853269984665640564039457584007913129639936 - lQ) % 115792089237316195423570985008687907853269984665640564039457584007913129639936) = wd at *
    rw [← hsh] at hcutW
    generalize w4 (R i) = wi at *
    generalize hwn : w4 (R (i + 1)) = wn at *
    clear hcut hxl hV hs1
    (repeat' (first | with_reducible (first | refine zA fun Kn hK => ?_ | refine zB (by kernel_rfl) ?_ | refine zC (by kernel_rfl) (by kernel_rfl) ?_ | refine zD ?_ | refine zN ?_ | refine zF ?_ | refine zG ?_ | refine zH ?_ | (refine hK _ ?_; clear hK Kn) | (clear hK Kn; refine hK _ ?_; clear hK Kn) | (clear hK Kn; clear hK Kn; refine hK _ ?_; clear hK Kn)) | fail | with_reducible (first | refine zI ?_ | refine zJ ?_ | refine zK ?_ ?_ | refine zL ?_ ?_ | refine And.intro (show logOk _ _ = true by kernel_rfl) ?_) | simp (maxSteps := 10000000) (disch := omega) only [wrap_id, wrap8, max_r, max_l, min_r, min_l] | (with_reducible refine zM (fun hb => ?_) (fun hb => ?_) <;> (try simp only [hb])) | (with_reducible refine And.intro (by first | omega | (simp; done) | (simp; omega)) ?_) | simp (maxSteps := 10000000) (implicitDefEqProofs := false) only [go_sem, Nat.reduceEqDiff, Nat.reduceBEq, ↓reduceIte, Nat.reduceAdd, Nat.reduceMul, Nat.reduceSub, Nat.reduceLeDiff, Nat.reduceLT, reduceCtorEq, Int.reduceLE, Int.reduceLT, Int.reduceToNat, Int.reduceBEq, hb, e1, wrap_nat, hbit] | fail))
    refine sound_loopR (fun x : {k : Nat // k ≤ 4} => ⟨[(1, .a (.c (.d (.v (.int .u8 (y.toNat : Int)))))), (2, vP 2 0), (4, vP 4 0), (5, vP 5 0), (7, .a (.c (.d (nD (shS wi bit x.1).2)))), (12, vI i), (21, vI x.1)], [(2, some ⟨97, ((shS wi bit x.1).1.map nD).map C.d, true, false⟩), (4, some ⟨97, zeroOf Try.prog 97, true, false⟩), (5, some ⟨97, (wl.map nD).map C.d, true, false⟩)]⟩) (fun x => 4 - x.1) ⟨0, by omega⟩ [] (by (iterate 2 ((try simp (maxSteps := 10000000) (implicitDefEqProofs := false) only [go_sem, Nat.reduceEqDiff, Nat.reduceBEq, ↓reduceIte, Nat.reduceAdd, Nat.reduceMul, Nat.reduceSub, Nat.reduceLeDiff, Nat.reduceLT, reduceCtorEq, Int.reduceLE, Int.reduceLT, Int.reduceToNat, Int.reduceBEq, true_and]); (try simp (maxSteps := 10000000) (disch := omega) only [wrap_id, wrap8, max_r, max_l, min_r, min_l]))); try simp [shS]) (fun ⟨k, hk⟩ => ?_)
    have hlk := shS_len wi bit k
    rw [hLi] at hlk
    by_cases hk4 : k < 4
    · have hb3 : decide ((k : Int) < 4) = true := decide_eq_true (by omega)
      have hg1 := numsC_get (l := (shS wi bit k).1) (k := k) (by omega)
      have hor := or_bit (x := (shS wi bit k).1.getD k 0) ((shS_lt hwl0 hbl k).2)
      (repeat' (first | with_reducible (first | refine zA fun Kn hK => ?_ | refine zB (by kernel_rfl) ?_ | refine zC (by kernel_rfl) (by kernel_rfl) ?_ | refine zD ?_ | refine zN ?_ | refine zF ?_ | refine zG ?_ | refine zH ?_ | (refine hK _ ?_; clear hK Kn) | (clear hK Kn; refine hK _ ?_; clear hK Kn) | (clear hK Kn; clear hK Kn; refine hK _ ?_; clear hK Kn)) | fail | with_reducible (first | refine zI ?_ | refine zJ ?_ | refine zK ?_ ?_ | refine zL ?_ ?_ | refine And.intro (show logOk _ _ = true by kernel_rfl) ?_) | simp (maxSteps := 10000000) (disch := omega) only [wrap_id, wrap8, max_r, max_l, min_r, min_l] | (with_reducible refine zM (fun hb => ?_) (fun hb => ?_) <;> (try simp only [hb])) | (with_reducible refine And.intro (by first | omega | (simp; done) | (simp; omega)) ?_) | simp (maxSteps := 10000000) (implicitDefEqProofs := false) only [go_sem, Nat.reduceEqDiff, Nat.reduceBEq, ↓reduceIte, Nat.reduceAdd, Nat.reduceMul, Nat.reduceSub, Nat.reduceLeDiff, Nat.reduceLT, reduceCtorEq, Int.reduceLE, Int.reduceLT, Int.reduceToNat, Int.reduceBEq, hb3, List.length_map, List.length_set, hlk, hg1, pow_1, pow_63, hor] | fail))
      refine ⟨[], ⟨k + 1, hk4⟩, ?_⟩
      (iterate 2 ((try simp (maxSteps := 10000000) (implicitDefEqProofs := false) only [go_sem, Nat.reduceEqDiff, Nat.reduceBEq, ↓reduceIte, Nat.reduceAdd, Nat.reduceMul, Nat.reduceSub, Nat.reduceLeDiff, Nat.reduceLT, reduceCtorEq, Int.reduceLE, Int.reduceLT, Int.reduceToNat, Int.reduceBEq, shS]); (try simp (maxSteps := 10000000) (disch := omega) only [wrap_id, wrap8, max_r, max_l, min_r, min_l])))
      try (simp only [SV.a.injEq, AV.c.injEq, C.d.injEq, D.v.injEq, Value.int.injEq, true_and, and_true, DR.one.injEq, DV.c.injEq, OutO.ret.injEq]; first | done | omega | (split <;> omega) | (simp; done) | (simp; omega))
    · have hb3 : decide ((k : Int) < 4) = false := decide_eq_false (by omega)
      obtain rfl : k = 4 := by omega
      obtain ⟨f1, f2, f3⟩ := cd_facts (l := (shS wi bit 4).1.map nD) (n := 4) (by rw [List.length_map]; exact hlk)
      generalize (shS wi bit 4).1 = ws at *
      by_cases hv : V < lQ
      · rw [if_pos hv] at hcutW
        rw [decide_eq_true hv] at hle
        subst hcutW
        (repeat' (first | with_reducible (first | refine zA fun Kn hK => ?_ | refine zB (by kernel_rfl) ?_ | refine zC (by kernel_rfl) (by kernel_rfl) ?_ | refine zD ?_ | refine zN ?_ | refine zF ?_ | refine zG ?_ | refine zH ?_ | (refine hK _ ?_; clear hK Kn) | (clear hK Kn; refine hK _ ?_; clear hK Kn) | (clear hK Kn; clear hK Kn; refine hK _ ?_; clear hK Kn)) | (refine ⟨_, hle, ?_⟩) | with_reducible (first | refine zI ?_ | refine zJ ?_ | refine zK ?_ ?_ | refine zL ?_ ?_ | refine And.intro (show logOk _ _ = true by kernel_rfl) ?_) | simp (maxSteps := 10000000) (disch := omega) only [wrap_id, wrap8, max_r, max_l, min_r, min_l] | (with_reducible refine zM (fun hb => ?_) (fun hb => ?_) <;> (try simp only [hb])) | (with_reducible refine And.intro (by first | omega | (simp; done) | (simp; omega)) ?_) | simp (maxSteps := 10000000) (implicitDefEqProofs := false) only [go_sem, Nat.reduceEqDiff, Nat.reduceBEq, ↓reduceIte, Nat.reduceAdd, Nat.reduceMul, Nat.reduceSub, Nat.reduceLeDiff, Nat.reduceLT, reduceCtorEq, Int.reduceLE, Int.reduceLT, Int.reduceToNat, Int.reduceBEq, hb3, List.length_map, hlk, lwl, hLd, b1, b2, b3, f1, f2, f3, g1, g2, g3, List.append_nil, Bool.not_true] | fail))
        refine ⟨[], ⟨i + 1, hlt⟩, ?_⟩
        (iterate 2 ((try simp (maxSteps := 10000000) (implicitDefEqProofs := false) only [go_sem, Nat.reduceEqDiff, Nat.reduceBEq, ↓reduceIte, Nat.reduceAdd, Nat.reduceMul, Nat.reduceSub, Nat.reduceLeDiff, Nat.reduceLT, reduceCtorEq, Int.reduceLE, Int.reduceLT, Int.reduceToNat, Int.reduceBEq, hwn]); (try simp (maxSteps := 10000000) (disch := omega) only [wrap_id, wrap8, max_r, max_l, min_r, min_l])))
        try (simp only [SV.a.injEq, AV.c.injEq, C.d.injEq, D.v.injEq, Value.int.injEq, true_and, and_true, DR.one.injEq, DV.c.injEq, OutO.ret.injEq]; first | done | omega | (split <;> omega) | (simp; done) | (simp; omega))
      · rw [if_neg hv] at hcutW
        rw [decide_eq_false hv] at hle
        subst hcutW
        (repeat' (first | with_reducible (first | refine zA fun Kn hK => ?_ | refine zB (by kernel_rfl) ?_ | refine zC (by kernel_rfl) (by kernel_rfl) ?_ | refine zD ?_ | refine zN ?_ | refine zF ?_ | refine zG ?_ | refine zH ?_ | (refine hK _ ?_; clear hK Kn) | (clear hK Kn; refine hK _ ?_; clear hK Kn) | (clear hK Kn; clear hK Kn; refine hK _ ?_; clear hK Kn)) | (refine ⟨_, hle, ?_⟩) | with_reducible (first | refine zI ?_ | refine zJ ?_ | refine zK ?_ ?_ | refine zL ?_ ?_ | refine And.intro (show logOk _ _ = true by kernel_rfl) ?_) | simp (maxSteps := 10000000) (disch := omega) only [wrap_id, wrap8, max_r, max_l, min_r, min_l] | (with_reducible refine zM (fun hb => ?_) (fun hb => ?_) <;> (try simp only [hb])) | (with_reducible refine And.intro (by first | omega | (simp; done) | (simp; omega)) ?_) | simp (maxSteps := 10000000) (implicitDefEqProofs := false) only [go_sem, Nat.reduceEqDiff, Nat.reduceBEq, ↓reduceIte, Nat.reduceAdd, Nat.reduceMul, Nat.reduceSub, Nat.reduceLeDiff, Nat.reduceLT, reduceCtorEq, Int.reduceLE, Int.reduceLT, Int.reduceToNat, Int.reduceBEq, hb3, List.length_map, hlk, lwl, hLd, b1, b2, b3, f1, f2, f3, g1, g2, g3, List.append_nil, Bool.not_false] | fail))
        refine ⟨[], ⟨i + 1, hlt⟩, ?_⟩
        (iterate 2 ((try simp (maxSteps := 10000000) (implicitDefEqProofs := false) only [go_sem, Nat.reduceEqDiff, Nat.reduceBEq, ↓reduceIte, Nat.reduceAdd, Nat.reduceMul, Nat.reduceSub, Nat.reduceLeDiff, Nat.reduceLT, reduceCtorEq, Int.reduceLE, Int.reduceLT, Int.reduceToNat, Int.reduceBEq, hwn]); (try simp (maxSteps := 10000000) (disch := omega) only [wrap_id, wrap8, max_r, max_l, min_r, min_l])))
        try (simp only [SV.a.injEq, AV.c.injEq, C.d.injEq, D.v.injEq, Value.int.injEq, true_and, and_true, DR.one.injEq, DV.c.injEq, OutO.ret.injEq]; first | done | omega | (split <;> omega) | (simp; done) | (simp; omega))
  · have hb : decide ((i : Int) < 8) = false := decide_eq_false (by omega)
    obtain rfl : i = 8 := by omega
    obtain ⟨g1, g2, g3⟩ := cd_facts (hL (R 8))
    have hl8 := hlen4 (R 8)
    generalize w4 (R 8) = w8 at *
    (repeat' (first | with_reducible (first | refine zA fun Kn hK => ?_ | refine zB (by kernel_rfl) ?_ | refine zC (by kernel_rfl) (by kernel_rfl) ?_ | refine zD ?_ | refine zN ?_ | refine zF ?_ | refine zG ?_ | refine zH ?_ | (refine hK _ ?_; clear hK Kn) | (clear hK Kn; refine hK _ ?_; clear hK Kn) | (clear hK Kn; clear hK Kn; refine hK _ ?_; clear hK Kn)) | fail | with_reducible (first | refine zI ?_ | refine zJ ?_ | refine zK ?_ ?_ | refine zL ?_ ?_ | refine And.intro (show logOk _ _ = true by kernel_rfl) ?_) | simp (maxSteps := 10000000) (disch := omega) only [wrap_id, wrap8, max_r, max_l, min_r, min_l] | (with_reducible refine zM (fun hb => ?_) (fun hb => ?_) <;> (try simp only [hb])) | (with_reducible refine And.intro (by first | omega | (simp; done) | (simp; omega)) ?_) | simp (maxSteps := 10000000) (implicitDefEqProofs := false) only [go_sem, Nat.reduceEqDiff, Nat.reduceBEq, ↓reduceIte, Nat.reduceAdd, Nat.reduceMul, Nat.reduceSub, Nat.reduceLeDiff, Nat.reduceLT, reduceCtorEq, Int.reduceLE, Int.reduceLT, Int.reduceToNat, Int.reduceBEq, hb, List.length_map, hl8, g1, g2, g3, List.append_nil] | fail))
end Go.Proofs.Ytkpkiefebipbbaa
/- A number's bytes, of four words. -/
namespace Go.Proofs.Ytkpkiefebipbbaa
open Go.RowKit
theorem w4_get {n q : Nat} (hq : q < 4) : (w4 n).getD q 0 = n / 2 ^ (64 * q) % 18446744073709551616 := by
  match q, hq with
  | 0, _ => simp [w4]
  | 1, _ => rfl
  | 2, _ => rfl
  | 3, _ => rfl
theorem w4_byte {n i : Nat} (hi : i < 32) : (w4 n).getD (i / 8) 0 / 2 ^ (8 * (i % 8)) % 256 = n / 2 ^ (8 * i) % 256 := by
  rw [w4_get (by omega), show (18446744073709551616 : Nat) = 2 ^ (8 * (i % 8)) * 2 ^ (64 - 8 * (i % 8)) by rw [← Nat.pow_add, show 8 * (i % 8) + (64 - 8 * (i % 8)) = 64 by omega], Nat.mod_mul_right_div_self, Nat.div_div_eq_div_mul, ← Nat.pow_add, show 64 * (i / 8) + 8 * (i % 8) = 8 * i by omega]
  obtain ⟨d, hd⟩ : ∃ d, 64 - 8 * (i % 8) = 8 + d := ⟨56 - 8 * (i % 8), by omega⟩
  rw [hd, Nat.pow_add, show (2 : Nat) ^ 8 = 256 from rfl, Nat.mod_mul_right_mod]
def pbS (n k : Nat) : List UInt8 := (List.range 32).map fun j => if j < k then UInt8.ofNat (n / 2 ^ (8 * j) % 256) else 0
theorem pbS_len (n k : Nat) : (pbS n k).length = 32 := by simp [pbS]
theorem pbS_0 (n : Nat) : pbS n 0 = List.replicate 32 0 := by
  simp only [pbS, Nat.not_lt_zero, if_false]
  decide
theorem pbS_32 (n : Nat) : pbS n 32 = leB n := by
  unfold pbS leB
  refine List.map_congr_left fun j hj => if_pos (List.mem_range.1 hj)
theorem pbS_get {n k j : Nat} (h : j < 32) : (pbS n k)[j]? = some (if j < k then UInt8.ofNat (n / 2 ^ (8 * j) % 256) else 0) := by
  simp [pbS, h]
theorem pbS_step (n : Nat) {k : Nat} (hk : k < 32) : (pbS n k).set k (UInt8.ofNat (n / 2 ^ (8 * k) % 256)) = pbS n (k + 1) := by
  refine List.ext_getElem? fun j => ?_
  by_cases hj : j < 32
  · rw [pbS_get hj]
    by_cases he : k = j
    · subst he
      rw [List.getElem?_set_self (by rw [pbS_len]; exact hj), if_pos (by omega)]
    · rw [List.getElem?_set_ne he, pbS_get hj]
      by_cases h : j < k
      · rw [if_pos h, if_pos (by omega)]
      · rw [if_neg h, if_neg (by omega)]
  · rw [List.getElem?_eq_none (by rw [List.length_set, pbS_len]; omega), List.getElem?_eq_none (by rw [pbS_len]; omega)]
theorem put_m {G : Nat → Option (List D)} (n : Nat) : Spec Try.prog G 66 [.g ((w4 n).map nD)] (.one (.g ((leB n).map bD))) := by
  have hbyte := fun i (h : i < 32) => w4_byte (n := n) h
  rw [← pbS_32]
  have l4 := w4_len n
  generalize w4 n = w at *
  obtain ⟨a1, a2, a3⟩ := cd_facts (l := w.map nD) (n := 4) (by rw [List.length_map]; exact l4)
  refine spec_of Try.func66 rfl rfl rfl (by kernel_rfl) rfl fun K => ?_
  (repeat' (first | with_reducible (first | refine zA fun Kn hK => ?_ | refine zB (by kernel_rfl) ?_ | refine zC (by kernel_rfl) (by kernel_rfl) ?_ | refine zD ?_ | refine zN ?_ | refine zF ?_ | refine zG ?_ | refine zH ?_ | (refine hK _ ?_; clear hK Kn) | (clear hK Kn; refine hK _ ?_; clear hK Kn) | (clear hK Kn; clear hK Kn; refine hK _ ?_; clear hK Kn)) | fail | with_reducible (first | refine zI ?_ | refine zJ ?_ | refine zK ?_ ?_ | refine zL ?_ ?_ | refine And.intro (show logOk _ _ = true by kernel_rfl) ?_) | simp (maxSteps := 10000000) (disch := omega) only [wrap_id, wrap8, max_r, max_l, min_r, min_l] | (with_reducible refine zM (fun hb => ?_) (fun hb => ?_) <;> (try simp only [hb])) | (with_reducible refine And.intro (by first | omega | (simp; done) | (simp; omega)) ?_) | simp (maxSteps := 10000000) (implicitDefEqProofs := false) only [go_sem, Nat.reduceEqDiff, Nat.reduceBEq, ↓reduceIte, Nat.reduceAdd, Nat.reduceMul, Nat.reduceSub, Nat.reduceLeDiff, Nat.reduceLT, reduceCtorEq, Int.reduceLE, Int.reduceLT, Int.reduceToNat, Int.reduceBEq, List.length_map, l4, a1, a2, a3, List.append_nil] | fail))
  refine sound_loopR (fun x : {k : Nat // k ≤ 32} => ⟨[(1, vP 1 0), (2, vP 2 0), (3, vP 3 0), (5, vI x.1)], [(1, some ⟨97, (w.map nD).map C.d, true, false⟩), (2, some ⟨25, zeroOf Try.prog 25, true, false⟩), (3, some ⟨25, ((pbS n x.1).map bD).map C.d, true, false⟩)]⟩) (fun x => 32 - x.1) ⟨0, by omega⟩ [] (by (iterate 2 ((try simp (maxSteps := 10000000) (implicitDefEqProofs := false) only [go_sem, Nat.reduceEqDiff, Nat.reduceBEq, ↓reduceIte, Nat.reduceAdd, Nat.reduceMul, Nat.reduceSub, Nat.reduceLeDiff, Nat.reduceLT, reduceCtorEq, Int.reduceLE, Int.reduceLT, Int.reduceToNat, Int.reduceBEq, pbS_0]); (try simp (maxSteps := 10000000) (disch := omega) only [wrap_id, wrap8, max_r, max_l, min_r, min_l]))); try simp [bD]) (fun ⟨i, hi⟩ => ?_)
  have hl32 := pbS_len n i
  by_cases hlt : i < 32
  · have hb : decide ((i : Int) < 32) = true := decide_eq_true (by omega)
    have hg := numsC_get (l := w) (k := i / 8) (by omega)
    have h4n : (8 * ((i % 8 : Nat) : Int)).toNat = 8 * (i % 8) := by omega
    have h0n : (0 : Int) ≤ 8 * ((i % 8 : Nat) : Int) := by omega
    have h4w : IntKind.i64.wrap (8 * ((i % 8 : Nat) : Int)) = 8 * ((i % 8 : Nat) : Int) := wrap_id (by omega) (by omega)
    have hm : min (8 * (i % 8)) 64 = 8 * (i % 8) := by omega
    have hby := hbyte i hlt
    rw [← hm] at hby
    clear hm
    have hst := bytesC_set (l := pbS n i) (k := i) (v := n / 2 ^ (8 * i) % 256) (Nat.mod_lt _ (by omega))
    rw [pbS_step n hlt] at hst
    (repeat' (first | with_reducible (first | refine zA fun Kn hK => ?_ | refine zB (by kernel_rfl) ?_ | refine zC (by kernel_rfl) (by kernel_rfl) ?_ | refine zD ?_ | refine zN ?_ | refine zF ?_ | refine zG ?_ | refine zH ?_ | (refine hK _ ?_; clear hK Kn) | (clear hK Kn; refine hK _ ?_; clear hK Kn) | (clear hK Kn; clear hK Kn; refine hK _ ?_; clear hK Kn)) | fail | with_reducible (first | refine zI ?_ | refine zJ ?_ | refine zK ?_ ?_ | refine zL ?_ ?_ | refine And.intro (show logOk _ _ = true by kernel_rfl) ?_) | simp (maxSteps := 10000000) (disch := omega) only [wrap_id, wrap8, max_r, max_l, min_r, min_l] | (with_reducible refine zM (fun hb => ?_) (fun hb => ?_) <;> (try simp only [hb])) | (with_reducible refine And.intro (by first | omega | (simp; done) | (simp; omega)) ?_) | simp (maxSteps := 10000000) (implicitDefEqProofs := false) only [go_sem, Nat.reduceEqDiff, Nat.reduceBEq, ↓reduceIte, Nat.reduceAdd, Nat.reduceMul, Nat.reduceSub, Nat.reduceLeDiff, Nat.reduceLT, reduceCtorEq, Int.reduceLE, Int.reduceLT, Int.reduceToNat, Int.reduceBEq, hb, List.length_map, l4, hl32, hg, h4n, h0n, h4w, wrap8_nat, hby, hst] | fail))
    refine ⟨[], ⟨i + 1, hlt⟩, ?_⟩
    (iterate 2 ((try simp (maxSteps := 10000000) (implicitDefEqProofs := false) only [go_sem, Nat.reduceEqDiff, Nat.reduceBEq, ↓reduceIte, Nat.reduceAdd, Nat.reduceMul, Nat.reduceSub, Nat.reduceLeDiff, Nat.reduceLT, reduceCtorEq, Int.reduceLE, Int.reduceLT, Int.reduceToNat, Int.reduceBEq, true_and]); (try simp (maxSteps := 10000000) (disch := omega) only [wrap_id, wrap8, max_r, max_l, min_r, min_l])))
    try (simp only [SV.a.injEq, AV.c.injEq, C.d.injEq, D.v.injEq, Value.int.injEq, true_and, and_true, DR.one.injEq, DV.c.injEq, OutO.ret.injEq]; first | done | omega | (split <;> omega) | (simp; done) | (simp; omega))
  · have hb : decide ((i : Int) < 32) = false := decide_eq_false (by omega)
    obtain rfl : i = 32 := by omega
    obtain ⟨c1, c2, c3⟩ := cd_facts (l := (pbS n 32).map bD) (n := 32) (by rw [List.length_map]; exact hl32)
    generalize pbS n 32 = R at *
    (repeat' (first | with_reducible (first | refine zA fun Kn hK => ?_ | refine zB (by kernel_rfl) ?_ | refine zC (by kernel_rfl) (by kernel_rfl) ?_ | refine zD ?_ | refine zN ?_ | refine zF ?_ | refine zG ?_ | refine zH ?_ | (refine hK _ ?_; clear hK Kn) | (clear hK Kn; refine hK _ ?_; clear hK Kn) | (clear hK Kn; clear hK Kn; refine hK _ ?_; clear hK Kn)) | fail | with_reducible (first | refine zI ?_ | refine zJ ?_ | refine zK ?_ ?_ | refine zL ?_ ?_ | refine And.intro (show logOk _ _ = true by kernel_rfl) ?_) | simp (maxSteps := 10000000) (disch := omega) only [wrap_id, wrap8, max_r, max_l, min_r, min_l] | (with_reducible refine zM (fun hb => ?_) (fun hb => ?_) <;> (try simp only [hb])) | (with_reducible refine And.intro (by first | omega | (simp; done) | (simp; omega)) ?_) | simp (maxSteps := 10000000) (implicitDefEqProofs := false) only [go_sem, Nat.reduceEqDiff, Nat.reduceBEq, ↓reduceIte, Nat.reduceAdd, Nat.reduceMul, Nat.reduceSub, Nat.reduceLeDiff, Nat.reduceLT, reduceCtorEq, Int.reduceLE, Int.reduceLT, Int.reduceToNat, Int.reduceBEq, hb, List.length_map, List.length_replicate, List.drop_replicate, hl32, c1, c2, c3, List.append_nil] | fail))
end Go.Proofs.Ytkpkiefebipbbaa
/- slices.Backward over bytes. -/
namespace Go.Proofs.Ytkpkiefebipbbaa
open Go.RowKit Go.Shelf
attribute [local go_sem] Oper.semAt_some
/-- What the body must keep: what lay below, and the boxed slice. -/
def KpB (n₀ Bs : Nat) (W W' : World) : Prop := Below n₀ W W' ∧ ∀ o, W.heap[Bs]? = some o → o.isCells = true → W'.heap[Bs]? = some o
theorem KpB.t {n₀ Bs : Nat} {A B C : World} (h : KpB n₀ Bs A B) (k : KpB n₀ Bs B C) : KpB n₀ Bs A C := ⟨h.1.trans k.1, fun o ho hc => k.2 o (h.2 o ho hc) hc⟩
set_option maxRecDepth 100000 in
set_option maxHeartbeats 2000000 in
theorem back1_in (F : Fence) (n : Nat) (h7 : F.fn 88) (hro : F.round = none) (hn : 1 ≤ n) (l Bs n₀ b off cap : Nat) (A : Option Addr) (zs : List UInt8) (hreach : zs.length ≤ 140737488351232) (hb : zs ≠ [] → b < n₀) (hA : zs ≠ [] → A = some ⟨b, off, none⟩) (J Jx : List (Nat × UInt8) → World → Prop)
    (hY : ∀ pre x W, J pre W → pre.length < zs.length → YieldAt F (n - 1) Try.prog l #[.int .i64 (x.1 : Int), .int .u8 (x.2.toNat : Int)] W fun e W' =>
      (e = .returned (.bool true) ∧ J (pre ++ [x]) W' ∧ KpB n₀ Bs W W') ∨ (e = .returned (.bool false) ∧ Jx (pre ++ [x]) W'))
    (W : World) (hBs : W.heap[Bs]? = some (.cells #[.slice A zs.length cap] 22 (0, 0))) (hc : ∀ j x, zs[j]? = some x → W.cell? ⟨b, off + j, none⟩ = some (.int .u8 (x.toNat : Int))) (h0 : J [] W) :
    CallsIn F n Try.prog 88 #[.func (.yield l) #[] #[], .pointer (some ⟨Bs, 0, none⟩)] W fun e W' => (∃ v, e = .returned v) ∧
      ((∃ ys, ys.map Prod.snd = zs.reverse ∧ J ys W') ∨ (∃ pre, True ∧ Jx pre W')) := by
  have hbx := fun (W' : World) (h : W'.heap[Bs]? = some (.cells #[.slice A zs.length cap] 22 (0, 0))) => boxed h 0 _ rfl
  refine callsIn_of_wp Try.func88 rfl h7 ?_ hro
  simp only [Try.ntmps88, List.size_toArray, List.length_cons, List.length_nil, Nat.reduceAdd, Nat.reduceSub, Array.replicate_succ, Array.replicate_zero, List.push_toArray, List.append_toArray, List.nil_append, List.cons_append]
  have hb0 := hbx W hBs
  gi_wp2
  gi_loopw [3] (fun i wr => ∃ (m : Nat) (pre : List (Nat × UInt8)), m ≤ zs.length ∧ i = .int .i64 ((m : Int) - 1) ∧ pre.length + m = zs.length ∧ pre.map Prod.snd = (zs.drop m).reverse ∧ J pre wr ∧ KpB n₀ Bs W wr)
    (fun i _ => (intOf i + 1).toNat)
  case atStart => exact ⟨zs.length, [], Nat.le_refl _, by simp, by simp, by simp, h0, ⟨Below.refl _ _, fun o ho _ => ho⟩⟩
  case round =>
    obtain ⟨m, pre, hm, rfl, hpl, hpm, hJs, hnx⟩ := hrel
    have hbr := hnx.2 _ hBs rfl
    have hbc := hbx wr hbr
    cases m with
    | zero =>
      gi_wp2
      go_end0
      exact ⟨⟨_, rfl⟩, .inl ⟨pre, by rw [hpm]; simp, hJs⟩⟩
    | succ m =>
      have hlt : m < zs.length := by omega
      have e1 : (((m + 1 : Nat) : Int) - 1) = (m : Int) := by omega
      rw [e1]
      have hne : zs ≠ [] := by intro h; rw [h] at hlt; simp at hlt
      obtain rfl := hA hne
      have hcx : wr.cell? ⟨b, off + m, none⟩ = some (.int .u8 ((zs[m]).toNat : Int)) := (hnx.1.cell (p := ⟨b, off + m, none⟩) (hb hne)).trans (hc m _ (List.getElem?_eq_getElem hlt))
      obtain ⟨fn, tmps, assign, body, hy, hR⟩ := hY pre (m, zs[m]) wr hJs (by omega)
      dsimp only at hy
      gi_wp2
      refine hR.mono ?_
      rintro e W3 (⟨rfl, hJ3, hk3⟩ | ⟨rfl, hJx3⟩)
      · gi_wp2
        go_roundw
        case rel => exact ⟨m, pre ++ [(m, zs[m])], by omega, by simp, by simp; omega, by rw [List.map_append, hpm, List.drop_eq_getElem_cons (i := m) hlt, List.reverse_cons]; rfl, hJ3, hnx.t hk3⟩
        case measure => simp [intOf]
      · gi_wp2
        refine bodyPost_ret (results_none rfl _ _ _) rfl ?_
        exact ⟨⟨_, rfl⟩, .inr ⟨_, trivial, hJx3⟩⟩
set_option maxHeartbeats 1000000 in
theorem back_in (F : Fence) (n : Nat) (h5 : F.fn 64) (hro : F.round = none) (a : Option Addr) (len cap : Nat) (w : World) :
    CallsIn F n Try.prog 64 #[.slice a len cap] w fun e w' => e = .returned (.func (.func 88) #[] #[.pointer (some ⟨w.heap.size, 0, none⟩)]) ∧ w' = w.alloc (.cells #[.slice a len cap] 22) := by
  refine callsIn_of_wp Try.func64 rfl h5 ?_ hro
  simp only [Try.ntmps64, List.size_toArray, List.length_cons, List.length_nil, Nat.reduceAdd, Nat.reduceSub, Array.replicate_succ, Array.replicate_zero, List.push_toArray, List.append_toArray, List.nil_append, List.cons_append]
  gi_wp2
  go_ret
  exact ⟨rfl, rfl⟩
/-- A number's four words. -/
def wv (u : Nat → Nat → Int) (r : Nat) : List Value := [.int .u64 (u 0 r), .int .u64 (u 1 r), .int .u64 (u 2 r), .int .u64 (u 3 r)]
/-- What has come, the last byte first. -/
def redF (q : Nat) (pre : List (Nat × UInt8)) : Nat := pre.foldl (fun r x => (r * 256 + x.2.toNat) % q) 0
theorem redF_snoc (q : Nat) (pre : List (Nat × UInt8)) (x : Nat × UInt8) : redF q (pre ++ [x]) = (redF q pre * 256 + x.2.toNat) % q := by simp [redF]
theorem redF_lt {q : Nat} (hq : 0 < q) : ∀ pre : List (Nat × UInt8), redF q pre < q := fun pre => by
  rcases List.eq_nil_or_concat pre with rfl | ⟨p, x, rfl⟩
  · exact hq
  · rw [List.concat_eq_append, redF_snoc]; exact Nat.mod_lt _ hq
theorem store_out {P : Program} {g : Nat} {t : TypeId} {cur : Array Value} {vs : List Value} {W : World} (hg : W.heap[g]? = some (.cells cur t (0, 0))) (hl : vs.length = cur.size) (h1 : ∀ v ∈ vs, v.oneCell' = true) :
    (storeCells ⟨g, 0, none⟩ vs).run P W = .ok () (W.setRow g vs.toArray) := by
  have h := run_storeCells_from (P := P) g t vs 0 cur W hg (by omega) h1
  simpa using h
set_option maxRecDepth 100000 in
set_option maxHeartbeats 2000000 in
theorem reduce_w (u : Nat → Nat → Int) (hu : ∀ i, u i 0 = 0) (q : Nat) (hq : 0 < q) (w : World) (A : Option Addr) (b off cap : Nat) (zs : List UInt8) (out : List Value) (hl : out.length = 32) (hone : ∀ v ∈ out, v.oneCell' = true) (hreach : zs.length ≤ 140737488351232) (hb : zs ≠ [] → b < w.heap.size) (hA : zs ≠ [] → A = some ⟨b, off, none⟩)
    (hc : ∀ j x, zs[j]? = some x → w.cell? ⟨b, off + j, none⟩ = some (.int .u8 (x.toNat : Int)))
    (hr : ∀ (r : Nat) (y : UInt8) (W : World), r < q → Calls Try.prog 65 #[.agg (wv u r).toArray, .int .u8 (y.toNat : Int)] W fun e W' => Below W.heap.size W W' ∧ e = .returned (.agg (wv u ((r * 256 + y.toNat) % q)).toArray))
    (hp : ∀ (ys : List (Nat × UInt8)) (W : World), ys.map Prod.snd = zs.reverse → Calls Try.prog 66 #[.agg (wv u (redF q ys)).toArray] W fun e W' => Below W.heap.size W W' ∧ e = .returned (.agg out.toArray)) :
    Calls Try.prog 32 #[.slice A zs.length cap] w fun e w' => Below w.heap.size w w' ∧ e = .returned (.agg out.toArray) := by
  refine (callsIn_wide (n := 3)).1 ?_
  refine callsIn_of_wp_marks Try.func32 rfl trivial ?_ rfl
  simp only [Try.ntmps32, List.size_toArray, List.length_cons, List.length_nil, Nat.reduceAdd, Nat.reduceSub, Array.replicate_succ, Array.replicate_zero, List.push_toArray, List.append_toArray, List.nil_append, List.cons_append]
  simp only [wv] at hr hp
  gi_wp2_with (refine ⟨trivial, ?_⟩; gi_at_call 64; refine (back_in Fence.wide _ trivial rfl _ _ _ _).mono ?_; rintro e w' ⟨rfl, rfl⟩)
  obtain ⟨W1, hW1⟩ : ∃ W1, (((w.alloc (.cells (Array.replicate 32 (.int .u8 0)) 25)).alloc (.cells #[.int .u64 0, .int .u64 0, .int .u64 0, .int .u64 0] 97)).alloc (.cells #[.slice A zs.length cap] 22)) = W1 := ⟨_, rfl⟩
  have hB1 : Below w.heap.size w W1 := by rw [← hW1]; exact (((Below.refl _ w).alloc (Nat.le_refl _) _).alloc (by simp) _).alloc (by simp; omega) _
  have hs1 : W1.heap.size = w.heap.size + 3 := by rw [← hW1]; simp
  have hb2 : W1.heap[w.heap.size]? = some (.cells (Array.replicate 32 (.int .u8 0)) 25 (0, 0)) := by rw [← hW1]; exact box_alloc (box_alloc (box_new w _ _) _) _
  have hb3 : W1.heap[w.heap.size + 1]? = some (.cells #[.int .u64 0, .int .u64 0, .int .u64 0, .int .u64 0] 97 (0, 0)) := by rw [← hW1]; refine box_alloc ?_ _; have := box_new (w.alloc (.cells (Array.replicate 32 (.int .u8 0)) 25)) #[.int .u64 0, .int .u64 0, .int .u64 0, .int .u64 0] 97; simpa using this
  have hb3 : W1.heap[w.heap.size + 1]? = some (.cells (wv u (redF q [])).toArray 97 (0, 0)) := by rw [hb3]; simp only [wv, redF, List.foldl_nil, hu]
  have hb4 : W1.heap[w.heap.size + 1 + 1]? = some (.cells #[.slice A zs.length cap] 22 (0, 0)) := by
    rw [← hW1]
    have := box_new ((w.alloc (.cells (Array.replicate 32 (.int .u8 0)) 25)).alloc (.cells #[.int .u64 0, .int .u64 0, .int .u64 0, .int .u64 0] 97)) #[.slice A zs.length cap] 22
    simpa using this
  have hc1 : ∀ W, Below w.heap.size w W → ∀ j x, zs[j]? = some x → W.cell? ⟨b, off + j, none⟩ = some (.int .u8 (x.toNat : Int)) := fun W h j x hx => (h.cell (p := ⟨b, off + j, none⟩) (hb (by rintro rfl; simp at hx))).trans (hc j x hx)
  show Code.wpIn Fence.wide 3 Try.prog _ _ _ (((w.alloc (.cells (Array.replicate 32 (.int .u8 0)) 25)).alloc (.cells #[.int .u64 0, .int .u64 0, .int .u64 0, .int .u64 0] 97)).alloc (.cells #[.slice A zs.length cap] 22))
  rw [hW1]
  clear hW1
  have hstops : SeqStopsK Fence.wide (3 - 1) Try.prog 88 #[.pointer (some ⟨w.heap.size + 1 + 1, 0, none⟩)] (fun x : Nat × UInt8 => #[Value.int .i64 (x.1 : Int), Value.int .u8 (x.2.toNat : Int)]) (KpB w.heap.size (w.heap.size + 1 + 1)) (fun ys => ys.map Prod.snd = zs.reverse) (fun _ => True) zs.length W1 := fun l J Jx W hW _ _ hY h0 =>
    back1_in Fence.wide _ trivial rfl (by omega) l (w.heap.size + 1 + 1) w.heap.size b off cap A zs hreach hb hA J Jx hY W ((hW.block _ (by omega)).trans hb4) (hc1 W (hB1.trans (hW.mono hB1.size))) h0
  refine wpIn_rangeFunc_ownF rfl (by omega) (gf := 88) (lb := #[.pointer (some ⟨w.heap.size + 1 + 1, 0, none⟩)]) rfl trivial (enters_of Try.func88 (by kernel_rfl) rfl) hstops KpB.t
    (fun W l o o' hl h h1 h2 => ⟨belowK_b (w := W1) hB1.size W l o o' hl h h1 h2, fun o2 ho2 hc2 => (World.putObj_heap_other (fun e => by omega)).trans ho2⟩) (Below.refl _ _) (fun _ => rfl)
    (fun pre W => (W.heap[w.heap.size + 1]? = some (.cells (wv u (redF q pre)).toArray 97 (0, 0)) ∧ W.heap[w.heap.size]? = some (.cells (Array.replicate 32 (.int .u8 0)) 25 (0, 0))) ∧ Below w.heap.size w W)
    (fun _ _ _ => False)
    (OwnFrom.and (fun s W W' row hs hg hr => ⟨(hg.block _ (Array.getElem?_eq_some_iff.1 hs.1).1 (fun e => by have := (hr _ e.symm).1; omega)).trans hs.1, (hg.block _ (Array.getElem?_eq_some_iff.1 hs.2).1 (fun e => by have := (hr _ e.symm).1; omega)).trans hs.2⟩) (ownFrom_below (Nat.le_refl _) hB1.size))
    (fun _ _ _ _ _ hs _ _ => hs)
    ⟨⟨hb3, hb2⟩, hB1⟩
    (fun x => { tmps := #[.slice A zs.length cap, undef, .pointer (some ⟨w.heap.size, 0, none⟩), .pointer (some ⟨w.heap.size + 1, 0, none⟩), undef, .int .u8 (x.2.toNat : Int), .slice A zs.length cap, .func (.func 88) #[] #[.pointer (some ⟨w.heap.size + 1 + 1, 0, none⟩)], .int .i64 (x.1 : Int), .int .u8 (x.2.toNat : Int), undef, undef, undef, undef, undef], defers := [] }) ?assign ?body ?done ?stop
  case assign =>
    intro l x W K hK
    gi_wp2
    exact hK
  case body =>
    rintro l pre x W ⟨⟨h1, h2⟩, h3⟩ _
    have hq1 := redF_lt hq pre
    have hd : 1 ≤ 3 - 1 - 1 := by omega
    have c0 := boxed h1 0 _ rfl
    have c1 := boxed h1 1 _ rfl
    have c2 := boxed h1 2 _ rfl
    have c3 := boxed h1 3 _ rfl
    gi_wp2_with (refine ⟨trivial, ?_⟩; gi_at_call 65; refine (CallsIn.inRound l (callsIn_wide.2 (hr _ _ _ hq1))).mono ?_; rintro e W' ⟨hB, rfl⟩; have g1 := box_below h1 hB (Array.getElem?_eq_some_iff.1 h1).1; have g2 := box_below h2 hB (Array.getElem?_eq_some_iff.1 h2).1; have d0 := boxed g1 0 _ rfl; have d1 := boxed g1 1 _ rfl; have d2 := boxed g1 2 _ rfl; have d3 := boxed g1 3 _ rfl; have f0 := boxed_frozen g1 0; have f1 := boxed_frozen g1 1; have f2 := boxed_frozen g1 2; have f3 := boxed_frozen g1 3)
    have hlW : w.heap.size + 1 < W.heap.size := (Array.getElem?_eq_some_iff.1 h1).1
    have hsv := redF_snoc q pre x
    generalize (redF q pre * 256 + x.2.toNat) % q = rn at *
    have k0 := box_set (j := 0) g1 (.int .u64 (u 0 rn))
    have k1 := box_set (j := 1) k0 (.int .u64 (u 1 rn))
    have k2 := box_set (j := 2) k1 (.int .u64 (u 2 rn))
    have k3 := box_set (j := 3) k2 (.int .u64 (u 3 rn))
    have hKO : KeepsOthers W W' := ⟨hB.size, fun k o hk _ => (hB.block k (Array.getElem?_eq_some_iff.1 hk).1).trans hk⟩
    have hBW : Below w.heap.size W W' := hB.mono h3.size
    refine ⟨hKO.trans ((((KeepsOthers.setCell _ _ _).trans (KeepsOthers.setCell _ _ _)).trans (KeepsOthers.setCell _ _ _)).trans (KeepsOthers.setCell _ _ _)), ⟨(((hBW.setCell (by simp) _).setCell (by simp) _).setCell (by simp) _).setCell (by simp) _, fun o ho _ => ?_⟩, ⟨by rw [hsv]; exact k3, ?_⟩, ?_⟩
    · have hlo : w.heap.size + 1 + 1 < W.heap.size := (Array.getElem?_eq_some_iff.1 ho).1
      exact box_far (box_far (box_far (box_far (box_below ho hB hlo) (by simp) _) (by simp) _) (by simp) _) (by simp) _
    · exact box_far (box_far (box_far (box_far g2 (by simp) _) (by simp) _) (by simp) _) (by simp) _
    · exact h3.trans ((((hBW.setCell (by simp) _).setCell (by simp) _).setCell (by simp) _).setCell (by simp) _)
  case done =>
    rintro D ys W hD hS ⟨⟨h1, h2⟩, h3⟩ hK
    have c0 := boxed h1 0 _ rfl
    have c1 := boxed h1 1 _ rfl
    have c2 := boxed h1 2 _ rfl
    have c3 := boxed h1 3 _ rfl
    gi_wp2_with (refine ⟨trivial, ?_⟩; gi_at_call 66; refine (callsIn_wide.2 (hp ys _ hS)).mono ?_; rintro e W' ⟨hB, rfl⟩; have g2 := box_below h2 hB (Array.getElem?_eq_some_iff.1 h2).1; have hst := store_out (P := Try.prog) g2 (by simp [hl]) hone; have gK := box_below hK hB (Array.getElem?_eq_some_iff.1 hK).1)
    have e2 := setRow_heap W' w.heap.size _ out.toArray _ _ g2
    have eK : (W'.setRow w.heap.size out.toArray).heap[D]? = some (.deferred (some [])) := (setRow_other W' w.heap.size D out.toArray (by omega)).trans gK
    have hsz : (W'.setRow w.heap.size out.toArray).heap.size = W'.heap.size := by simp
    have hBf : Below w.heap.size w (W'.setRow w.heap.size out.toArray) := (h3.trans (hB.mono h3.size)).trans ⟨rfl, rfl, rfl, by rw [hsz]; exact Nat.le_refl _, fun k hk => setRow_other W' w.heap.size k out.toArray (by omega)⟩
    generalize W'.setRow w.heap.size out.toArray = W5 at *
    have e5 : (W5.putObj D (.deferred none)).heap[w.heap.size]? = some (.cells out.toArray 25 (0, 0)) := (World.putObj_heap_other (fun e => by omega)).trans e2
    refine ⟨by simp, .inl ⟨_, _, rfl, run_takeDeferred eK, ?_⟩⟩
    exact ⟨_, results_cell_row rfl _ _ w.heap.size 25 out.toArray (0, 0) _ rfl e5 Try.underlying25 rfl (by rw [List.size_toArray, hl]; kernel_rfl), hBf.trans (belowK_b (w := w) (Nat.le_refl _) W5 D _ _ (by omega) eK rfl rfl), rfl⟩
  case stop =>
    rintro D c pre W _ _ h _
    exact h.elim
end Go.Proofs.Ytkpkiefebipbbaa
/- A rest of bytes. -/
namespace Go.Proofs.Ytkpkiefebipbbaa
open Go.RowKit
def nV (n : Nat) : Value := .int .u64 (n : Int)
def bV (x : UInt8) : Value := .int .u8 (x.toNat : Int)
theorem belowE {w w' : World} (h : Ev (fun _ => False) w w') : Below w.heap.size w w' := ⟨h.os, h.tape, h.output, h.size, fun k hk => h.block k hk fun h => h⟩
theorem evB {w w' : World} (h : Below w.heap.size w w') : Ev (fun _ => False) w w' := ⟨h.os, h.tape, h.output, h.size, fun k hk _ => h.block k hk⟩
theorem map_fwd {α : Type} {d : α → D} {v : α → Value} (hv : ∀ (w : World) S x, RD w S (d x) (v x)) {w : World} {S : Nat → Prop} (l : List α) : DRd w S (.g (l.map d)) (.agg (l.map v).toArray) := by
  refine ⟨l.map v, rfl, by rw [List.length_map, List.length_map], fun i x y hx hy => ?_⟩
  rw [List.getElem?_map] at hx hy
  cases hl : l[i]? with
  | none => rw [hl] at hx; cases hx
  | some a =>
    rw [hl] at hx hy
    obtain rfl : d a = x := by simpa using hx
    obtain rfl : v a = y := by simpa using hy
    exact hv _ _ _
theorem map_back {α : Type} {d : α → D} {v : α → Value} (hv : ∀ (w : World) S x u, RD w S (d x) u → u = v x) {w : World} {S : Nat → Prop} {l : List α} {u : Value} (h : DRd w S (.g (l.map d)) u) : u = .agg (l.map v).toArray := by
  obtain ⟨us, rfl, hl, hc⟩ := h
  rw [List.length_map] at hl
  congr 2
  refine List.ext_getElem? fun i => ?_
  by_cases hi : i < l.length
  · have h1 : us[i]? = some us[i] := List.getElem?_eq_getElem (by omega)
    have h2 : (l.map d)[i]? = some (d l[i]) := by rw [List.getElem?_map, List.getElem?_eq_getElem hi]; rfl
    rw [h1, hv _ _ _ _ (hc i _ _ h2 h1), List.getElem?_map, List.getElem?_eq_getElem hi]
    rfl
  · rw [List.getElem?_eq_none (by omega), List.getElem?_eq_none (by rw [List.length_map]; omega)]
theorem nV_of (w : World) (S : Nat → Prop) (x : Nat) (u : Value) (h : RD w S (nD x) u) : u = nV x := by
  cases h
  rfl
theorem bV_of (w : World) (S : Nat → Prop) (x : UInt8) (u : Value) (h : RD w S (bD x) u) : u = bV x := by
  cases h
  rfl
theorem leV_red (q : Nat) : ∀ (ys : List (Nat × UInt8)) (zs : List UInt8), ys.map Prod.snd = zs.reverse → redF q ys = leV zs % q := by
  intro ys zs h
  have e : ∀ ys : List (Nat × UInt8), redF q ys = (ys.map Prod.snd).foldl (fun r x => (r * 256 + x.toNat) % q) 0 := fun ys => by
    rw [redF, List.foldl_map]
  rw [e, h]
  clear e h ys
  induction zs with
  | nil => simp [leV]
  | cons b l ih =>
    rw [List.reverse_cons, List.foldl_append, ih]
    show (leV l % q * 256 + b.toNat) % q = (b.toNat + 256 * leV l) % q
    rw [Nat.add_mod, Nat.mul_mod, Nat.mod_mod, ← Nat.mul_mod, ← Nat.add_mod, Nat.mul_comm 256, Nat.add_comm]
theorem reduce_m {G : Nat → Option (List D)} (b : List UInt8) (hn : b.length ≤ 1000000000) : Spec Try.prog G 32 [.c (bytesD b)] (.one (.g ((leB (leV b % lQ)).map bD))) := by
  intro w S vs hS hT hA
  obtain ⟨hl, hc⟩ := hA
  match vs, hl with
  | [u], _ =>
    obtain ⟨A, c, rfl, hs⟩ := bytes_sl (hc 0 _ _ rfl rfl) rfl
    obtain ⟨bk, off, hbk, hA, hcell⟩ : ∃ bk off, (b ≠ [] → bk < w.heap.size) ∧ (b ≠ [] → A = some ⟨bk, off, none⟩) ∧ ∀ (j : Nat) (x : UInt8), b[j]? = some x → w.cell? ⟨bk, off + j, none⟩ = some (.int .u8 (x.toNat : Int)) := by
      by_cases hb0 : b = []
      · subst hb0
        exact ⟨0, 0, fun h => absurd rfl h, fun h => absurd rfl h, fun j x h => by simp at h⟩
      · obtain ⟨bk, o, rfl, hb, hr⟩ := hs.2.2.2 (List.length_pos_iff.2 hb0)
        refine ⟨bk, o, fun _ => hS _ hb, fun _ => rfl, fun j x hx => ?_⟩
        obtain ⟨es, he, hc⟩ := hr j x hx
        subst he
        have := hc 0 _ rfl
        simpa [Rep.u8] using this
    have hT0 : ∀ W S, Tables (fun _ => none) W S := fun W S g cs h => by cases h
    refine Calls.mono (reduce_w (fun i r => ((w4 r).getD i 0 : Nat)) (fun i => ?_) lQ (by decide +kernel) w A bk off c b ((leB (leV b % lQ)).map bV) (by rw [List.length_map, leB_len]) (fun v hv => ?_) (by omega) hbk hA hcell (fun r y W hr => ?_) (fun ys W hys => ?_)) ?_
    · show (((w4 0).getD i 0 : Nat) : Int) = 0
      match i with
      | 0 => rfl
      | 1 => rfl
      | 2 => rfl
      | 3 => rfl
      | i + 4 => rfl
    · obtain ⟨x, _, rfl⟩ := List.mem_map.1 hv
      rfl
    · refine Calls.mono (rest_m (G := fun _ => none) r y hr W (fun _ => False) [.agg ((w4 r).map nV).toArray, bV y] (fun b h => h.elim) (hT0 _ _) ⟨rfl, fun i x v hx hv => ?_⟩) ?_
      · match i with
        | 0 =>
          simp at hx hv
          subst hx hv
          exact map_fwd (fun _ _ x => .v _ rfl) _
        | 1 =>
          simp at hx hv
          subst hx hv
          exact .v _ rfl
        | i + 2 => simp at hx
      · rintro e w1 ⟨hE, u1, rfl, hu⟩
        refine ⟨belowE hE, ?_⟩
        rw [map_back nV_of hu]
        rfl
    · refine Calls.mono (put_m (G := fun _ => none) (redF lQ ys) W (fun _ => False) [.agg ((w4 (redF lQ ys)).map nV).toArray] (fun b h => h.elim) (hT0 _ _) ⟨rfl, fun i x v hx hv => ?_⟩) ?_
      · match i with
        | 0 =>
          simp at hx hv
          subst hx hv
          exact map_fwd (fun _ _ x => .v _ rfl) _
        | i + 1 => simp at hx
      · rintro e w1 ⟨hE, u1, rfl, hu⟩
        refine ⟨belowE hE, ?_⟩
        rw [map_back bV_of hu, leV_red lQ ys b hys]
    · rintro e w1 ⟨hB, rfl⟩
      exact ⟨evB hB, _, rfl, map_fwd (fun _ _ x => .v _ rfl) _⟩
end Go.Proofs.Ytkpkiefebipbbaa
/- Rows of bytes held against each other; numbers below the order; a product and a sum. -/
namespace Go.Proofs.Ytkpkiefebipbbaa
open Go.RowKit
theorem flatB {l : List UInt8} {k : Nat} {x : UInt8} (h : l[k]? = some x) : (l.map bD)[k]? = some (D.v (.int .u8 (x.toNat : Int))) := by rw [List.getElem?_map, h]; rfl
theorem equalS_m {G : Nat → Option (List D)} (l m : List UInt8) (hn : l.length ≤ 1000000000) : Spec Try.prog G 33 [.c (bytesD l), .c (bytesD m)] (.one (.c (.v (.bool (l == m))))) := by
  refine spec_of Try.func33 rfl rfl rfl (by kernel_rfl) rfl fun K => ?_
  by_cases hn : l.length = m.length
  · have d1 : ((l.length : Int) == (m.length : Int)) = true := by simp [hn]
    (repeat' (first | with_reducible (first | refine zA fun Kn hK => ?_ | refine zB (by kernel_rfl) ?_ | refine zC (by kernel_rfl) (by kernel_rfl) ?_ | refine zD ?_ | refine zN ?_ | refine zF ?_ | refine zG ?_ | refine zH ?_ | (refine hK _ ?_; clear hK Kn) | (clear hK Kn; refine hK _ ?_; clear hK Kn) | (clear hK Kn; clear hK Kn; refine hK _ ?_; clear hK Kn)) | fail | with_reducible (first | refine zI ?_ | refine zJ ?_ | refine zK ?_ ?_ | refine zL ?_ ?_ | refine And.intro (show logOk _ _ = true by kernel_rfl) ?_) | simp (maxSteps := 10000000) (disch := omega) only [wrap_id, wrap8, max_r, max_l, min_r, min_l] | (with_reducible refine zM (fun hb => ?_) (fun hb => ?_) <;> (try simp only [hb])) | (with_reducible refine And.intro (by first | omega | (simp; done) | (simp; omega)) ?_) | simp (maxSteps := 10000000) (implicitDefEqProofs := false) only [go_sem, Nat.reduceEqDiff, Nat.reduceBEq, ↓reduceIte, Nat.reduceAdd, Nat.reduceMul, Nat.reduceSub, Nat.reduceLeDiff, Nat.reduceLT, reduceCtorEq, Int.reduceLE, Int.reduceLT, Int.reduceToNat, Int.reduceBEq, d1] | fail))
    refine sound_loopR (fun x : {k : Nat // k ≤ l.length ∧ l.take k = m.take k} => ⟨[(0, vD (bytesD l)), (1, vD (bytesD m)), (12, vI l.length), (13, vI x.1)], []⟩) (fun x => l.length - x.1) ⟨0, by simp⟩ [] (by (iterate 2 ((try simp (maxSteps := 10000000) (implicitDefEqProofs := false) only [go_sem, Nat.reduceEqDiff, Nat.reduceBEq, ↓reduceIte, Nat.reduceAdd, Nat.reduceMul, Nat.reduceSub, Nat.reduceLeDiff, Nat.reduceLT, reduceCtorEq, Int.reduceLE, Int.reduceLT, Int.reduceToNat, Int.reduceBEq, true_and]); (try simp (maxSteps := 10000000) (disch := omega) only [wrap_id, wrap8, max_r, max_l, min_r, min_l]))); try simp) (fun ⟨k, hk, hall⟩ => ?_)
    by_cases hlt : k < l.length
    · obtain ⟨x, hx⟩ : ∃ x, l[k]? = some x := ⟨_, List.getElem?_eq_getElem hlt⟩
      obtain ⟨y, hy⟩ : ∃ y, m[k]? = some y := ⟨_, List.getElem?_eq_getElem (by omega)⟩
      have hb : decide ((k : Int) < (l.length : Int)) = true := by simpa using hlt
      have hlm : k < m.length := by omega
      by_cases hxy : x = y
      · subst hxy
        have hd : ((x.toNat : Int) == (x.toNat : Int)) = true := by simp
        (repeat' (first | with_reducible (first | refine zA fun Kn hK => ?_ | refine zB (by kernel_rfl) ?_ | refine zC (by kernel_rfl) (by kernel_rfl) ?_ | refine zD ?_ | refine zN ?_ | refine zF ?_ | refine zG ?_ | refine zH ?_ | (refine hK _ ?_; clear hK Kn) | (clear hK Kn; refine hK _ ?_; clear hK Kn) | (clear hK Kn; clear hK Kn; refine hK _ ?_; clear hK Kn)) | fail | with_reducible (first | refine zI ?_ | refine zJ ?_ | refine zK ?_ ?_ | refine zL ?_ ?_ | refine And.intro (show logOk _ _ = true by kernel_rfl) ?_) | simp (maxSteps := 10000000) (disch := omega) only [wrap_id, wrap8, max_r, max_l, min_r, min_l] | (with_reducible refine zM (fun hb => ?_) (fun hb => ?_) <;> (try simp only [hb])) | (with_reducible refine And.intro (by first | omega | (simp; done) | (simp; omega)) ?_) | simp (maxSteps := 10000000) (implicitDefEqProofs := false) only [go_sem, Nat.reduceEqDiff, Nat.reduceBEq, ↓reduceIte, Nat.reduceAdd, Nat.reduceMul, Nat.reduceSub, Nat.reduceLeDiff, Nat.reduceLT, reduceCtorEq, Int.reduceLE, Int.reduceLT, Int.reduceToNat, Int.reduceBEq, hb, flatB hx, flatB hy, hd, List.length_map] | fail))
        refine ⟨[], ⟨k + 1, hlt, ?_⟩, ?_⟩
        · rw [List.take_add_one, List.take_add_one, hx, hy, hall]
        · (iterate 2 ((try simp (maxSteps := 10000000) (implicitDefEqProofs := false) only [go_sem, Nat.reduceEqDiff, Nat.reduceBEq, ↓reduceIte, Nat.reduceAdd, Nat.reduceMul, Nat.reduceSub, Nat.reduceLeDiff, Nat.reduceLT, reduceCtorEq, Int.reduceLE, Int.reduceLT, Int.reduceToNat, Int.reduceBEq, true_and]); (try simp (maxSteps := 10000000) (disch := omega) only [wrap_id, wrap8, max_r, max_l, min_r, min_l])))
          try (simp only [SV.a.injEq, AV.c.injEq, C.d.injEq, D.v.injEq, Value.int.injEq, true_and, and_true, DR.one.injEq, DV.c.injEq, OutO.ret.injEq]; first | done | omega | (split <;> omega) | (simp; done) | (simp; omega))
      · have hd : ((x.toNat : Int) == (y.toNat : Int)) = false := by
          rw [beq_eq_false_iff_ne]
          intro h
          exact hxy (UInt8.toNat_inj.1 (by omega))
        have hf : (l == m) = false := by
          rw [beq_eq_false_iff_ne]
          rintro rfl
          rw [hx] at hy
          injection hy with hy
          exact hxy hy
        (repeat' (first | with_reducible (first | refine zA fun Kn hK => ?_ | refine zB (by kernel_rfl) ?_ | refine zC (by kernel_rfl) (by kernel_rfl) ?_ | refine zD ?_ | refine zN ?_ | refine zF ?_ | refine zG ?_ | refine zH ?_ | (refine hK _ ?_; clear hK Kn) | (clear hK Kn; refine hK _ ?_; clear hK Kn) | (clear hK Kn; clear hK Kn; refine hK _ ?_; clear hK Kn)) | fail | with_reducible (first | refine zI ?_ | refine zJ ?_ | refine zK ?_ ?_ | refine zL ?_ ?_ | refine And.intro (show logOk _ _ = true by kernel_rfl) ?_) | simp (maxSteps := 10000000) (disch := omega) only [wrap_id, wrap8, max_r, max_l, min_r, min_l] | (with_reducible refine zM (fun hb => ?_) (fun hb => ?_) <;> (try simp only [hb])) | (with_reducible refine And.intro (by first | omega | (simp; done) | (simp; omega)) ?_) | simp (maxSteps := 10000000) (implicitDefEqProofs := false) only [go_sem, Nat.reduceEqDiff, Nat.reduceBEq, ↓reduceIte, Nat.reduceAdd, Nat.reduceMul, Nat.reduceSub, Nat.reduceLeDiff, Nat.reduceLT, reduceCtorEq, Int.reduceLE, Int.reduceLT, Int.reduceToNat, Int.reduceBEq, hb, flatB hx, flatB hy, hd, hf, List.length_map] | fail))
    · have hb : decide ((k : Int) < (l.length : Int)) = false := by simpa using hlt
      obtain rfl : k = l.length := by omega
      rw [List.take_length, hn, List.take_length] at hall
      have hf : (l == m) = true := by rw [hall]; simp
      (repeat' (first | with_reducible (first | refine zA fun Kn hK => ?_ | refine zB (by kernel_rfl) ?_ | refine zC (by kernel_rfl) (by kernel_rfl) ?_ | refine zD ?_ | refine zN ?_ | refine zF ?_ | refine zG ?_ | refine zH ?_ | (refine hK _ ?_; clear hK Kn) | (clear hK Kn; refine hK _ ?_; clear hK Kn) | (clear hK Kn; clear hK Kn; refine hK _ ?_; clear hK Kn)) | fail | with_reducible (first | refine zI ?_ | refine zJ ?_ | refine zK ?_ ?_ | refine zL ?_ ?_ | refine And.intro (show logOk _ _ = true by kernel_rfl) ?_) | simp (maxSteps := 10000000) (disch := omega) only [wrap_id, wrap8, max_r, max_l, min_r, min_l] | (with_reducible refine zM (fun hb => ?_) (fun hb => ?_) <;> (try simp only [hb])) | (with_reducible refine And.intro (by first | omega | (simp; done) | (simp; omega)) ?_) | simp (maxSteps := 10000000) (implicitDefEqProofs := false) only [go_sem, Nat.reduceEqDiff, Nat.reduceBEq, ↓reduceIte, Nat.reduceAdd, Nat.reduceMul, Nat.reduceSub, Nat.reduceLeDiff, Nat.reduceLT, reduceCtorEq, Int.reduceLE, Int.reduceLT, Int.reduceToNat, Int.reduceBEq, hb, hf] | fail))
  · have d1 : ((l.length : Int) == (m.length : Int)) = false := by
      rw [beq_eq_false_iff_ne]
      omega
    have hf : (l == m) = false := by
      rw [beq_eq_false_iff_ne]
      rintro rfl
      exact hn rfl
    (repeat' (first | with_reducible (first | refine zA fun Kn hK => ?_ | refine zB (by kernel_rfl) ?_ | refine zC (by kernel_rfl) (by kernel_rfl) ?_ | refine zD ?_ | refine zN ?_ | refine zF ?_ | refine zG ?_ | refine zH ?_ | (refine hK _ ?_; clear hK Kn) | (clear hK Kn; refine hK _ ?_; clear hK Kn) | (clear hK Kn; clear hK Kn; refine hK _ ?_; clear hK Kn)) | fail | with_reducible (first | refine zI ?_ | refine zJ ?_ | refine zK ?_ ?_ | refine zL ?_ ?_ | refine And.intro (show logOk _ _ = true by kernel_rfl) ?_) | simp (maxSteps := 10000000) (disch := omega) only [wrap_id, wrap8, max_r, max_l, min_r, min_l] | (with_reducible refine zM (fun hb => ?_) (fun hb => ?_) <;> (try simp only [hb])) | (with_reducible refine And.intro (by first | omega | (simp; done) | (simp; omega)) ?_) | simp (maxSteps := 10000000) (implicitDefEqProofs := false) only [go_sem, Nat.reduceEqDiff, Nat.reduceBEq, ↓reduceIte, Nat.reduceAdd, Nat.reduceMul, Nat.reduceSub, Nat.reduceLeDiff, Nat.reduceLT, reduceCtorEq, Int.reduceLE, Int.reduceLT, Int.reduceToNat, Int.reduceBEq, d1, hf] | fail))
theorem may_ok {b : List UInt8} (h : b.length = 32) : (b == leB (leV b % lQ)) = decide (leV b < lQ) := by
  have hv := leV_lt b
  rw [h] at hv
  rw [Bool.eq_iff_iff, beq_iff_eq, decide_eq_true_eq]
  constructor
  · intro h2
    have h3 := leV_leB (n := leV b % lQ) (Nat.lt_trans (Nat.mod_lt _ (by decide +kernel)) (by decide +kernel))
    rw [← h2] at h3
    rw [h3]
    exact Nat.mod_lt _ (by decide +kernel)
  · intro h2
    rw [Nat.mod_eq_of_lt h2, leB_leV h]
theorem mayS_m {G : Nat → Option (List D)} (b : List UInt8) (hn : b.length ≤ 1000000000) : Spec Try.prog G 13 [.c (bytesD b)] (.one (.c (.v (.bool (decide (b.length = 32 ∧ leV b < lQ)))))) := by
  have hr := reduce_m (G := G) b hn
  have hll := leB_len (leV b % lQ)
  have hok := fun h => may_ok (b := b) h
  generalize leB (leV b % lQ) = R at *
  have he := equalS_m (G := G) b R hn
  unfold bytesD at he
  rw [hll] at he
  obtain ⟨c1, c2, c3⟩ := cd_facts (l := R.map bD) (n := 32) (by rw [List.length_map]; exact hll)
  by_cases h : b.length = 32
  · rw [hok h] at he
    have hd : decide (b.length = 32 ∧ leV b < lQ) = decide (leV b < lQ) := by simp [h]
    rw [hd]
    have hb1 : (b.length == 32) = true := by simp [h]
    refine spec_of Try.func13 rfl rfl rfl (by kernel_rfl) rfl fun K => ?_
    (repeat' (first | with_reducible (first | refine zA fun Kn hK => ?_ | refine zB (by kernel_rfl) ?_ | refine zC (by kernel_rfl) (by kernel_rfl) ?_ | refine zD ?_ | refine zN ?_ | refine zF ?_ | refine zG ?_ | refine zH ?_ | (refine hK _ ?_; clear hK Kn) | (clear hK Kn; refine hK _ ?_; clear hK Kn) | (clear hK Kn; clear hK Kn; refine hK _ ?_; clear hK Kn)) | (refine ⟨none, ?_⟩) | (refine ⟨_, hr, ?_⟩) | (refine ⟨_, he, ?_⟩) | with_reducible (first | refine zI ?_ | refine zJ ?_ | refine zK ?_ ?_ | refine zL ?_ ?_ | refine And.intro (show logOk _ _ = true by kernel_rfl) ?_) | simp (maxSteps := 10000000) (disch := omega) only [wrap_id, wrap8, max_r, max_l, min_r, min_l] | (with_reducible refine zM (fun hb => ?_) (fun hb => ?_) <;> (try simp only [hb])) | (with_reducible refine And.intro (by first | omega | (simp; done) | (simp; omega)) ?_) | simp (maxSteps := 10000000) (implicitDefEqProofs := false) only [go_sem, Nat.reduceEqDiff, Nat.reduceBEq, ↓reduceIte, Nat.reduceAdd, Nat.reduceMul, Nat.reduceSub, Nat.reduceLeDiff, Nat.reduceLT, reduceCtorEq, Int.reduceLE, Int.reduceLT, Int.reduceToNat, Int.reduceBEq, hb1, int_beqL, List.length_map, List.length_replicate, List.drop_replicate, hll, c1, c2, c3, List.append_nil] | fail))
  · have hd : decide (b.length = 32 ∧ leV b < lQ) = false := by simp [h]
    rw [hd]
    have hb1 : (b.length == 32) = false := by simp [h]
    refine spec_of Try.func13 rfl rfl rfl (by kernel_rfl) rfl fun K => ?_
    (repeat' (first | with_reducible (first | refine zA fun Kn hK => ?_ | refine zB (by kernel_rfl) ?_ | refine zC (by kernel_rfl) (by kernel_rfl) ?_ | refine zD ?_ | refine zN ?_ | refine zF ?_ | refine zG ?_ | refine zH ?_ | (refine hK _ ?_; clear hK Kn) | (clear hK Kn; refine hK _ ?_; clear hK Kn) | (clear hK Kn; clear hK Kn; refine hK _ ?_; clear hK Kn)) | (refine ⟨_, hr, ?_⟩) | (refine ⟨_, he, ?_⟩) | with_reducible (first | refine zI ?_ | refine zJ ?_ | refine zK ?_ ?_ | refine zL ?_ ?_ | refine And.intro (show logOk _ _ = true by kernel_rfl) ?_) | simp (maxSteps := 10000000) (disch := omega) only [wrap_id, wrap8, max_r, max_l, min_r, min_l] | (with_reducible refine zM (fun hb => ?_) (fun hb => ?_) <;> (try simp only [hb])) | (with_reducible refine And.intro (by first | omega | (simp; done) | (simp; omega)) ?_) | simp (maxSteps := 10000000) (implicitDefEqProofs := false) only [go_sem, Nat.reduceEqDiff, Nat.reduceBEq, ↓reduceIte, Nat.reduceAdd, Nat.reduceMul, Nat.reduceSub, Nat.reduceLeDiff, Nat.reduceLT, reduceCtorEq, Int.reduceLE, Int.reduceLT, Int.reduceToNat, Int.reduceBEq, hb1, int_beqL, List.length_map, List.length_replicate, List.drop_replicate, hll, c1, c2, c3, List.append_nil] | fail))
end Go.Proofs.Ytkpkiefebipbbaa
/- Sixteen digits: of bytes, and their bytes. -/
namespace Go.Proofs.Ytkpkiefebipbbaa
open Go.RowKit
end Go.Proofs.Ytkpkiefebipbbaa
/- Sixteen digits: their bytes. -/
namespace Go.Proofs.Ytkpkiefebipbbaa
open Go.RowKit
end Go.Proofs.Ytkpkiefebipbbaa
/- Sixteen digits: roots. -/
namespace Go.Proofs.Ytkpkiefebipbbaa
open Go.RowKit
section
variable {G : Nat → Option (List D)}
end
end Go.Proofs.Ytkpkiefebipbbaa
/- The order's digits; digits held against each other. -/
namespace Go.Proofs.Ytkpkiefebipbbaa
open Go.RowKit
end Go.Proofs.Ytkpkiefebipbbaa
/- Digits less one another; digits of bytes. -/
namespace Go.Proofs.Ytkpkiefebipbbaa
open Go.RowKit
end Go.Proofs.Ytkpkiefebipbbaa
/- Digits of bytes, however many. -/
namespace Go.Proofs.Ytkpkiefebipbbaa
open Go.RowKit
end Go.Proofs.Ytkpkiefebipbbaa
/- A rest of digits, plainly. -/
namespace Go.Proofs.Ytkpkiefebipbbaa
open Go.RowKit
end Go.Proofs.Ytkpkiefebipbbaa
/- A rest of digits: the walk. -/
namespace Go.Proofs.Ytkpkiefebipbbaa
open Go.RowKit
end Go.Proofs.Ytkpkiefebipbbaa
/- A rest of bytes by digits. -/
namespace Go.Proofs.Ytkpkiefebipbbaa
open Go.RowKit
end Go.Proofs.Ytkpkiefebipbbaa
/- Numbers below the order, by digits. -/
namespace Go.Proofs.Ytkpkiefebipbbaa
open Go.RowKit
end Go.Proofs.Ytkpkiefebipbbaa
/- A product and a sum by digits: plainly. -/
namespace Go.Proofs.Ytkpkiefebipbbaa
open Go.RowKit
end Go.Proofs.Ytkpkiefebipbbaa
/- A product and a sum, less the order as often as may be. -/
namespace Go.Proofs.Ytkpkiefebipbbaa
open Go.RowKit
theorem acc_step {r : List UInt8} {k x c t : Nat} {y : UInt8} (h : r[k]? = some y) (ht : t = x + y.toNat + c) : leV (r.set k (UInt8.ofNat (t % 256))) + t / 256 * 256 ^ (k + 1) = leV r + c * 256 ^ k + x * 256 ^ k := by
  have h1 := leV_set (d := UInt8.ofNat (t % 256)) h
  have h2 : (UInt8.ofNat (t % 256)).toNat = t % 256 := UInt8.toNat_ofNat_of_lt' (by simp only [UInt8.size]; omega)
  rw [h2] at h1
  rw [Nat.pow_succ]
  generalize 256 ^ k = P at *
  have h3 := Nat.div_add_mod t 256
  generalize t / 256 = q at *
  generalize t % 256 = m at *
  subst ht
  have e1 : P * (x + y.toNat + c) = P * x + P * y.toNat + P * c := by rw [Nat.mul_add, Nat.mul_add]
  have e2 : P * (256 * q + m) = q * (P * 256) + P * m := by rw [Nat.mul_add, ← Nat.mul_assoc, Nat.mul_comm (P * 256)]
  rw [h3, e1] at e2
  have e3 := Nat.mul_comm P x
  have e4 := Nat.mul_comm P c
  omega
def accV (A B C i : Nat) : Nat := C + A % 256 ^ i * B
theorem mod_up (A i : Nat) : A % 256 ^ (i + 1) = A % 256 ^ i + A / 256 ^ i % 256 * 256 ^ i := by
  rw [Nat.pow_succ, Nat.mod_mul, Nat.mul_comm (256 ^ i)]
theorem accV_step (A B C i : Nat) : accV A B C (i + 1) = accV A B C i + A / 256 ^ i % 256 * B * 256 ^ i := by
  unfold accV
  rw [mod_up, Nat.add_mul, Nat.add_assoc, Nat.mul_assoc _ (256 ^ i), Nat.mul_comm (256 ^ i) B, ← Nat.mul_assoc]
theorem accV_lt {A B C : Nat} (hB : B < 256 ^ 32) (hC : C < 256 ^ 32) {i : Nat} (hi : i ≤ 32) : accV A B C i < 256 ^ 64 := by
  have h1 : A % 256 ^ i < 256 ^ 32 := Nat.lt_of_lt_of_le (Nat.mod_lt _ (Nat.pow_pos (by omega))) (Nat.pow_le_pow_right (by omega) hi)
  unfold accV
  rw [show (256 : Nat) ^ 64 = 256 ^ 32 * 256 ^ 32 by rw [← Nat.pow_add]]
  generalize (256 : Nat) ^ 32 = M at *
  generalize A % 256 ^ i = a at *
  have h2 : a * B ≤ (M - 1) * M := Nat.mul_le_mul (by omega) (by omega)
  have h3 : (M - 1) * M + M = M * M := by
    obtain ⟨m, rfl⟩ : ∃ m, M = m + 1 := ⟨M - 1, by omega⟩
    rw [Nat.add_sub_cancel, Nat.add_mul m 1, Nat.one_mul]
  omega
def InA (A B C i : Nat) (r : List UInt8) : Prop := r.length = 65 ∧ leV r = accV A B C i
def InB (A B C i : Nat) (x : Nat × List UInt8 × Nat) : Prop := x.1 ≤ 32 ∧ x.2.1.length = 65 ∧ x.2.2 ≤ 255 ∧ leV x.2.1 + x.2.2 * 256 ^ (i + x.1) = accV A B C i + A / 256 ^ i % 256 * (B % 256 ^ x.1) * 256 ^ i
def InC (A B C i : Nat) (x : Nat × List UInt8 × Nat) : Prop := x.1 ≤ 64 ∧ x.2.1.length = 65 ∧ x.2.2 ≤ 255 ∧ leV x.2.1 + x.2.2 * 256 ^ x.1 = accV A B C (i + 1)
theorem InB.step {A B C i j c t ya yb : Nat} {r : List UInt8} {y : UInt8} (h : InB A B C i (j, r, c)) (hj : j < 32) (ha : ya = A / 256 ^ i % 256) (hb : yb = B / 256 ^ j % 256) (hy : r[i + j]? = some y) (ht : t = ya * yb + y.toNat + c) (h256 : ya * yb ≤ 65025) :
    InB A B C i (j + 1, r.set (i + j) (UInt8.ofNat (t % 256)), t / 256) := by
  obtain ⟨h1, h2, h3, h4⟩ := h
  have hyl : y.toNat < 256 := y.toNat_lt
  dsimp only at h1 h2 h3 h4
  refine ⟨by dsimp only; omega, by dsimp only; rw [List.length_set]; exact h2, by dsimp only; omega, ?_⟩
  dsimp only
  have hs := acc_step hy ht
  rw [show i + (j + 1) = i + j + 1 by omega, hs, h4, mod_up B j, ← hb, ← ha, Nat.mul_add, Nat.add_mul, Nat.add_assoc]
  congr 2
  rw [Nat.pow_add, Nat.mul_comm (256 ^ i), ← Nat.mul_assoc, Nat.mul_assoc ya]
theorem InB.done {A B C i c : Nat} {r : List UInt8} (h : InB A B C i (32, r, c)) (hB : B < 256 ^ 32) (hi : i < 32) : InC A B C i (i + 32, r, c) := by
  obtain ⟨h1, h2, h3, h4⟩ := h
  refine ⟨by dsimp only; omega, h2, h3, ?_⟩
  dsimp only at h4 ⊢
  rw [h4, Nat.mod_eq_of_lt hB, accV_step]
theorem InC.lt {A B C i k c : Nat} {r : List UInt8} (h : InC A B C i (k, r, c)) (hB : B < 256 ^ 32) (hC : C < 256 ^ 32) (hi : i < 32) (hc : 0 < c) : k < 64 := by
  obtain ⟨h1, h2, h3, h4⟩ := h
  dsimp only at h1 h4
  have hv := accV_lt (A := A) hB hC (i := i + 1) (by omega)
  refine Nat.lt_of_le_of_ne h1 fun e => ?_
  subst e
  have : 1 * 256 ^ 64 ≤ c * 256 ^ 64 := Nat.mul_le_mul hc (Nat.le_refl _)
  generalize (256 : Nat) ^ 64 = M at *
  omega
theorem InC.step {A B C i k c t : Nat} {r : List UInt8} {y : UInt8} (h : InC A B C i (k, r, c)) (hk : k < 64) (hy : r[k]? = some y) (ht : t = y.toNat + c) : InC A B C i (k + 1, r.set k (UInt8.ofNat (t % 256)), t / 256) := by
  obtain ⟨h1, h2, h3, h4⟩ := h
  have hyl : y.toNat < 256 := y.toNat_lt
  dsimp only at h1 h2 h3 h4
  refine ⟨by dsimp only; omega, by dsimp only; rw [List.length_set]; exact h2, by dsimp only; omega, ?_⟩
  dsimp only
  have hs := acc_step (x := 0) hy (by omega : t = 0 + y.toNat + c)
  rw [hs, Nat.zero_mul, Nat.add_zero, h4]
theorem InC.done {A B C i k : Nat} {r : List UInt8} (h : InC A B C i (k, r, 0)) : InA A B C (i + 1) r := by
  obtain ⟨h1, h2, h3, h4⟩ := h
  dsimp only at h2 h4
  exact ⟨h2, by omega⟩
theorem leV_append_zeros (c : List UInt8) : ∀ n, leV (c ++ List.replicate n 0) = leV c := by
  have hz : ∀ n, leV (List.replicate n 0) = 0 := fun n => by
    induction n with
    | zero => rfl
    | succ n ih => rw [List.replicate_succ, leV, ih]; rfl
  intro n
  induction c with
  | nil => exact hz n
  | cons b l ih => rw [List.cons_append, leV, leV, ih]
theorem InA.zero {A B : Nat} {c : List UInt8} (h : c.length = 32) : InA A B (leV c) 0 (c ++ List.replicate 33 0) := by
  refine ⟨by simp [h], ?_⟩
  rw [leV_append_zeros, accV, Nat.pow_zero, Nat.mod_one, Nat.zero_mul, Nat.add_zero]
theorem InB.zero {A B C i : Nat} {r : List UInt8} (h : InA A B C i r) : InB A B C i (0, r, 0) := by
  refine ⟨by dsimp only; omega, h.1, by dsimp only; omega, ?_⟩
  dsimp only
  rw [h.2, Nat.pow_zero, Nat.mod_one, Nat.mul_zero, Nat.zero_mul, Nat.zero_mul]
end Go.Proofs.Ytkpkiefebipbbaa
