/- Parts of the proof, laid together. -/
import Derived.Test.YtbeghpkkpnbkgaaGreatDoorJ3
import Derived.Laws.FloatArith
import Derived.Laws.BitsAllLaws
import Derived.Laws.Bits64b
set_option linter.unusedVariables false
set_option linter.unusedSimpArgs false
set_option maxRecDepth 100000
set_option maxHeartbeats 8000000
/- Dates, as the program reads them; they are the document's. -/
namespace Go.Proofs.YtbeghpkkpnbkgaaGreatDoor
open Go.RowKit
def dateP (b : List UInt8) : Option Nat :=
  if fitsB b datF = true then (match clockP (b.drop 11) with
    | some t => dayO (aheadN (numV (b.take 4))) (numV (b.take 4)) (numV ((b.drop 5).take 2)) (numV ((b.drop 8).take 2)) t
    | none => none)
  else none
theorem clockP_lt {b : List UInt8} {v : Nat} (h : clockP b = some v) : v < 90000 := by
  unfold clockP clk3 at h
  split at h
  · split at h
    · cases h
    · injection h with h
      omega
  · cases h
theorem aheadN_le (y : Nat) (hy : y ≤ 9999) : aheadN y ≤ 4000000 := by
  unfold aheadN
  split <;> omega
section
variable {G : Nat → Option (List D)}
theorem date_m (b : List UInt8) (n : Nat) (lb : b.length = n) (hn : n ≤ 1000000000) : Spec Tryz.prog G 100 [.c (.sl n (b.map bD))] (resO (dateP b)) := by
  have hF := fits_m (G := G) b datF (by omega) (by decide) (by decide)
  have hstr : datF.toArray = #[48, 48, 48, 48, 45, 48, 48, 45, 48, 48, 95, 48, 48, 58, 48, 48, 58, 48, 48] := rfl
  rw [bytesD, lb, hstr] at hF
  cases h : fitsB b datF with
  | false =>
    have e : dateP b = none := by rw [dateP, if_neg (by rw [h]; decide)]
    rw [h] at hF
    rw [e]
    unfold resO iD
    refine spec_of Tryz.func100 rfl rfl rfl (by kernel_rfl) rfl fun K => ?_
    (repeat' (first | with_reducible (first | refine zA fun Kn hK => ?_ | refine zB (by kernel_rfl) ?_ | refine Nx.go ?_ | go_step) | (refine ⟨_, hF, ?_⟩) | with_reducible (first | refine zI ?_ | refine zJ ?_ | refine zK ?_ ?_ | refine zL ?_ ?_ | refine zR (by kernel_rfl) ?_) | simp (maxSteps := 9999999) (disch := omega) only [wq] | (with_reducible refine zM (fun hb => ?_) (fun hb => ?_) <;> (try simp only [hb])) | (with_reducible refine And.intro (by first | omega | (simp; done) | (simp; omega)) ?_) | simp (maxSteps := 9999999) (implicitDefEqProofs := false) only [go_sem, List.length_map, lb] | fail))
    try rfl
  | true =>
    have h19 : n = 19 := by rw [← lb]; exact fitsB_len h
    have d0 := fits_dg h (i := 0) (j := 4) (by intro k a c; match k, a, c with | 0, _, _ => rfl | 1, _, _ => rfl | 2, _, _ => rfl | 3, _, _ => rfl)
    have d5 := fits_dg h (i := 5) (j := 2) (by intro k a c; match k, a, c with | 5, _, _ => rfl | 6, _, _ => rfl)
    have d8 := fits_dg h (i := 8) (j := 2) (by intro k a c; match k, a, c with | 8, _, _ => rfl | 9, _, _ => rfl)
    rw [List.drop_zero] at d0
    have TC := clock_m (G := G) (b.drop 11) (n - 11) (by rw [List.length_drop, lb]) (by omega)
    have T0 := digits_m (G := G) (b.take 4) 4 (by rw [List.length_take]; omega) (by omega) d0
    have T5 := digits_m (G := G) ((b.drop 5).take 2) 2 (by rw [List.length_take, List.length_drop]; omega) (by omega) d5
    have T8 := digits_m (G := G) ((b.drop 8).take 2) 2 (by rw [List.length_take, List.length_drop]; omega) (by omega) d8
    have v0 := numV_lt _ d0
    have v5 := numV_lt _ d5
    have v8 := numV_lt _ d8
    rw [show (b.take 4).length = 4 by rw [List.length_take]; omega] at v0
    rw [show ((b.drop 5).take 2).length = 2 by rw [List.length_take, List.length_drop]; omega] at v5
    rw [show ((b.drop 8).take 2).length = 2 by rw [List.length_take, List.length_drop]; omega] at v8
    have r0 : (b.map bD).take 4 = (b.take 4).map bD := List.map_take.symm
    have r5 : ((b.map bD).drop 5).take 2 = ((b.drop 5).take 2).map bD := by rw [List.map_take, List.map_drop]
    have r8 : ((b.map bD).drop 8).take 2 = ((b.drop 8).take 2).map bD := by rw [List.map_take, List.map_drop]
    have rc : ((b.map bD).drop 11).take (n - 11) = (b.drop 11).map bD := by rw [List.map_drop]; exact List.take_of_length_le (by rw [List.length_drop, List.length_map]; omega)
    rw [dateP, if_pos h]
    rw [h] at hF
    have lc := @clockP_lt (b.drop 11)
    generalize clockP (b.drop 11) = oc at *
    generalize (b.take 4).map bD = L0 at *
    generalize ((b.drop 5).take 2).map bD = L5 at *
    generalize ((b.drop 8).take 2).map bD = L8 at *
    generalize (b.drop 11).map bD = LC at *
    generalize numV (b.take 4) = y at *
    generalize numV ((b.drop 5).take 2) = m at *
    generalize numV ((b.drop 8).take 2) = d at *
    unfold resO iD at *
    rcases oc with _ | t
    · refine spec_of Tryz.func100 rfl rfl rfl (by kernel_rfl) rfl fun K => ?_
      (repeat' (first | with_reducible (first | refine zA fun Kn hK => ?_ | refine zB (by kernel_rfl) ?_ | refine Nx.go ?_ | go_step) | (refine ⟨_, hF, ?_⟩) | (refine ⟨_, TC, ?_⟩) | (refine ⟨_, T0, ?_⟩) | (refine ⟨_, T5, ?_⟩) | (refine ⟨_, T8, ?_⟩) | with_reducible (first | refine zI ?_ | refine zJ ?_ | refine zK ?_ ?_ | refine zL ?_ ?_ | refine zR (by kernel_rfl) ?_) | simp (maxSteps := 9999999) (disch := omega) only [wq] | (with_reducible refine zM (fun hb => ?_) (fun hb => ?_) <;> (try simp only [hb])) | (with_reducible refine And.intro (by first | omega | (simp; done) | (simp; omega)) ?_) | simp (maxSteps := 9999999) (implicitDefEqProofs := false) only [go_sem, r0, r5, r8, rc, List.length_map, lb] | fail))
      try rfl
    · have kc := lc rfl
      simp only [Option.getD_some, Option.isSome_some] at TC
      dsimp only
      have hyl : y ≤ 9999 := by omega
      have f1 : decide ((m : Int) < 1) = decide (m < 1) := by rw [decide_eq_decide]; omega
      have f2 : decide ((m : Int) > 12) = decide (12 < m) := by rw [decide_eq_decide]; omega
      have f3 : decide ((d : Int) < 1) = decide (d < 1) := by rw [decide_eq_decide]; omega
      have f4 : decide ((d : Int) > (daysN y m : Int)) = decide (daysN y m < d) := by rw [decide_eq_decide]; omega
      have DD := days_m (G := G) y m
      have hD := daysN_le y m
      unfold iD at DD
      by_cases q : m < 1 ∨ 12 < m ∨ d < 1 ∨ daysN y m < d
      · rw [dayO, if_pos q]
        generalize hq1 : decide (m < 1) = q1 at *
        generalize hq2 : decide (12 < m) = q2 at *
        generalize hq3 : decide (d < 1) = q3 at *
        generalize hq4 : decide (daysN y m < d) = q4 at *
        refine spec_of Tryz.func100 rfl rfl rfl (by kernel_rfl) rfl fun K => ?_
        (repeat' (first | with_reducible (first | refine zA fun Kn hK => ?_ | refine zB (by kernel_rfl) ?_ | refine Nx.go ?_ | go_step) | (refine ⟨_, hF, ?_⟩) | (refine ⟨_, TC, ?_⟩) | (refine ⟨_, T0, ?_⟩) | (refine ⟨_, T5, ?_⟩) | (refine ⟨_, T8, ?_⟩) | (refine ⟨_, DD, ?_⟩) | with_reducible (first | refine zI ?_ | refine zJ ?_ | refine zK ?_ ?_ | refine zL ?_ ?_ | refine zR (by kernel_rfl) ?_) | simp (maxSteps := 9999999) (disch := omega) only [wq] | (with_reducible refine zM (fun hb => ?_) (fun hb => ?_) <;> (try simp only [hb])) | (with_reducible refine And.intro (by first | omega | (simp; done) | (simp; omega)) ?_) | simp (maxSteps := 9999999) (implicitDefEqProofs := false) only [go_sem, r0, r5, r8, rc, f1, f2, f3, f4, List.length_map, lb] | fail))
        all_goals first
          | rfl
          | (exfalso; simp_all; omega)
      · rw [dayO, if_neg q]
        rw [decide_eq_false (show ¬ m < 1 by omega)] at f1
        rw [decide_eq_false (show ¬ 12 < m by omega)] at f2
        rw [decide_eq_false (show ¬ d < 1 by omega)] at f3
        rw [decide_eq_false (show ¬ daysN y m < d by omega)] at f4
        have AH := ahead_m (G := G) y (by omega)
        have hA := aheadN_le y (by omega)
        unfold iD at AH
        generalize aheadN y = A at *
        refine spec_of Tryz.func100 rfl rfl rfl (by kernel_rfl) rfl fun K => ?_
        (repeat' (first | with_reducible (first | refine zA fun Kn hK => ?_ | refine zB (by kernel_rfl) ?_ | refine Nx.go ?_ | go_step) | (refine ⟨_, hF, ?_⟩) | (refine ⟨_, TC, ?_⟩) | (refine ⟨_, T0, ?_⟩) | (refine ⟨_, T5, ?_⟩) | (refine ⟨_, T8, ?_⟩) | (refine ⟨_, DD, ?_⟩) | (refine ⟨_, AH, ?_⟩) | with_reducible (first | refine zI ?_ | refine zJ ?_ | refine zK ?_ ?_ | refine zL ?_ ?_ | refine zR (by kernel_rfl) ?_) | simp (maxSteps := 9999999) (disch := omega) only [wq] | (with_reducible refine zM (fun hb => ?_) (fun hb => ?_) <;> (try simp only [hb])) | (with_reducible refine And.intro (by first | omega | (simp; done) | (simp; omega)) ?_) | simp (maxSteps := 9999999) (implicitDefEqProofs := false) only [go_sem, r0, r5, r8, rc, f1, f2, f3, f4, List.length_map, lb] | fail))
        refine sound_loopR (fun x : {j : Nat // j < m} => ⟨[(4, vI t), (6, vI y), (7, vI m), (9, vI ((A + (d - 1) + sumD y x.1 : Nat) : Int)), (10, vI ((x.1 + 1 : Nat) : Int))], []⟩) (fun x => m - x.1) ⟨0, by omega⟩ [] (by (iterate 2 ((try simp (maxSteps := 9999999) (implicitDefEqProofs := false) only [go_sem, true_and]); (try simp (maxSteps := 9999999) (disch := omega) only [wq]))); try simp [sumD]; try omega) (fun ⟨j, hj⟩ => ?_)
        have hs := sumD_le y j
        by_cases h : j + 1 < m
        · have h1 : decide (((j + 1 : Nat) : Int) < (m : Int)) = true := decide_eq_true (by omega)
          have hd := daysN_le y (j + 1)
          have D2 := days_m (G := G) y (j + 1)
          unfold iD at D2
          (repeat' (first | with_reducible (first | refine zA fun Kn hK => ?_ | refine zB (by kernel_rfl) ?_ | refine Nx.go ?_ | go_step) | (refine ⟨_, D2, ?_⟩) | with_reducible (first | refine zI ?_ | refine zJ ?_ | refine zK ?_ ?_ | refine zL ?_ ?_ | refine zR (by kernel_rfl) ?_) | simp (maxSteps := 9999999) (disch := omega) only [wq] | (with_reducible refine zM (fun hb => ?_) (fun hb => ?_) <;> (try simp only [hb])) | (with_reducible refine And.intro (by first | omega | (simp; done) | (simp; omega)) ?_) | simp (maxSteps := 9999999) (implicitDefEqProofs := false) only [go_sem, h1] | fail))
          refine ⟨[], ⟨j + 1, by omega⟩, ?_⟩
          (iterate 2 ((try simp (maxSteps := 9999999) (implicitDefEqProofs := false) only [go_sem, true_and, sumD]); (try simp (maxSteps := 9999999) (disch := omega) only [wq])))
          try (simp only [ijq, true_and, and_true]; first | done | omega | (split <;> omega) | (simp; done) | (simp; omega))
          try omega
        · have h1 : decide (((j + 1 : Nat) : Int) < (m : Int)) = false := decide_eq_false (by omega)
          obtain rfl : m = j + 1 := by omega
          (repeat' (first | with_reducible (first | refine zA fun Kn hK => ?_ | refine zB (by kernel_rfl) ?_ | refine Nx.go ?_ | go_step) | fail | with_reducible (first | refine zI ?_ | refine zJ ?_ | refine zK ?_ ?_ | refine zL ?_ ?_ | refine zR (by kernel_rfl) ?_) | simp (maxSteps := 9999999) (disch := omega) only [wq] | (with_reducible refine zM (fun hb => ?_) (fun hb => ?_) <;> (try simp only [hb])) | (with_reducible refine And.intro (by first | omega | (simp; done) | (simp; omega)) ?_) | simp (maxSteps := 9999999) (implicitDefEqProofs := false) only [go_sem, h1] | fail))
          try rfl
end
end Go.Proofs.YtbeghpkkpnbkgaaGreatDoor
/- The program's dates are the document's. -/
namespace Go.Proofs.YtbeghpkkpnbkgaaGreatDoor
theorem fitB_dg (c : UInt8) : fitB c 48 = isDg c := rfl
theorem fitB_at (c : UInt8) (k : UInt8) (h : ¬ k.toNat = 48) : fitB c k = decide (c = k) := by
  rw [fitB, if_neg h, decide_eq_decide, UInt8.toNat_inj]
theorem clock_eq (b : List UInt8) : clockP b = clockR b := by
  by_cases h8 : b.length = 8
  · match b, h8 with
    | [a0, a1, a2, a3, a4, a5, a6, a7], _ =>
      have e58 : ¬ (58 : UInt8).toNat = 48 := by decide
      simp only [clockP, clockR, fitsB, clkF, fitB_dg, fitB_at _ _ e58, List.length_cons, List.length_nil, List.getElem?_cons_succ, List.getElem?_cons_zero, twoO, List.take_succ_cons, List.take_zero, List.drop_succ_cons, List.drop_zero, Option.some.injEq, true_and, Nat.reduceAdd]
      by_cases c2 : a2 = 58
      · by_cases c5 : a5 = 58
        · have n2 : ∀ x y : UInt8, numV [x, y] = 10 * (x.toNat - 48) + (y.toNat - 48) := fun x y => by simp [numV]
          rw [if_pos (show a2 = 58 ∧ a5 = 58 from ⟨c2, c5⟩), decide_eq_true c2, decide_eq_true c5, n2, n2, n2]
          cases isDg a0 <;> cases isDg a1 <;> cases isDg a3 <;> cases isDg a4 <;> cases isDg a6 <;> cases isDg a7 <;> rfl
        · rw [if_neg (show ¬ (a2 = 58 ∧ a5 = 58) from fun h => c5 h.2), decide_eq_false c5, if_neg (by simp)]
      · rw [if_neg (show ¬ (a2 = 58 ∧ a5 = 58) from fun h => c2 h.1), decide_eq_false c2, if_neg (by simp)]
  · rw [clockP, clockR, if_neg (fun h => h8 (fitsB_len h)), if_neg (fun h => h8 h.1)]
theorem dayO_some {A y m d t : Nat} : (dayO A y m d t).isSome = !decide (m < 1 ∨ 12 < m ∨ d < 1 ∨ daysN y m < d) := by
  unfold dayO
  split
  · rename_i h
    rw [decide_eq_true h]
    rfl
  · rename_i h
    rw [decide_eq_false h]
    rfl
theorem date_some (b : List UInt8) : (dateP b).isSome = (dateR b).isSome := by
  by_cases h19 : b.length = 19
  · match b, h19 with
    | [a0, a1, a2, a3, a4, a5, a6, a7, a8, a9, a10, b0, b1, b2, b3, b4, b5, b6, b7], _ =>
      have e45 : ¬ (45 : UInt8).toNat = 48 := by decide
      have e95 : ¬ (95 : UInt8).toNat = 48 := by decide
      have hc := clock_eq [b0, b1, b2, b3, b4, b5, b6, b7]
      have hn : clockP [b0, b1, b2, b3, b4, b5, b6, b7] = none ∨ fitsB [b0, b1, b2, b3, b4, b5, b6, b7] clkF = true := by
        by_cases h : fitsB [b0, b1, b2, b3, b4, b5, b6, b7] clkF = true
        · exact .inr h
        · exact .inl (by rw [clockP, if_neg h])
      have hs : fitsB [a0, a1, a2, a3, a4, a5, a6, a7, a8, a9, a10, b0, b1, b2, b3, b4, b5, b6, b7] datF = (isDg a0 && (isDg a1 && (isDg a2 && (isDg a3 && (decide (a4 = 45) && (isDg a5 && (isDg a6 && (decide (a7 = 45) && (isDg a8 && (isDg a9 && (decide (a10 = 95) && fitsB [b0, b1, b2, b3, b4, b5, b6, b7] clkF))))))))))) := by
        simp only [fitsB, datF, clkF, fitB_dg, fitB_at _ _ e45, fitB_at _ _ e95]
      simp only [dateP, dateR, hs, List.length_cons, List.length_nil, List.getElem?_cons_succ, List.getElem?_cons_zero, twoO, List.take_succ_cons, List.take_zero, List.drop_succ_cons, List.drop_zero, Option.some.injEq, true_and, Nat.reduceAdd, hc]
      rw [hc] at hn
      generalize clockR [b0, b1, b2, b3, b4, b5, b6, b7] = oc at *
      generalize fitsB [b0, b1, b2, b3, b4, b5, b6, b7] clkF = fc at *
      by_cases c : a4 = 45 ∧ a7 = 45 ∧ a10 = 95
      · have n2 : ∀ x y : UInt8, numV [x, y] = 10 * (x.toNat - 48) + (y.toNat - 48) := fun x y => by simp [numV]
        have n4 : numV [a0, a1, a2, a3] = 100 * (10 * (a0.toNat - 48) + (a1.toNat - 48)) + (10 * (a2.toNat - 48) + (a3.toNat - 48)) := by
          simp [numV]
          omega
        rw [if_pos c, decide_eq_true c.1, decide_eq_true c.2.1, decide_eq_true c.2.2, n2, n2, n4]
        rcases oc with _ | t
        · cases isDg a0 <;> cases isDg a1 <;> cases isDg a2 <;> cases isDg a3 <;> cases isDg a5 <;> cases isDg a6 <;> cases isDg a8 <;> cases isDg a9 <;> (cases fc <;> rfl)
        · have : fc = true := by rcases hn with h | h; cases h; exact h
          subst this
          cases isDg a0 <;> cases isDg a1 <;> cases isDg a2 <;> cases isDg a3 <;> cases isDg a5 <;> cases isDg a6 <;> cases isDg a8 <;> cases isDg a9 <;> first | (simp only [Bool.and_true, Bool.and_self, if_true, dayO_some]; done) | rfl
      · rw [if_neg c]
        have : (decide (a4 = 45) && decide (a7 = 45) && decide (a10 = 95)) = false := by
          cases h : (decide (a4 = 45) && decide (a7 = 45) && decide (a10 = 95)) with
          | false => rfl
          | true =>
            simp only [Bool.and_eq_true, decide_eq_true_eq] at h
            exact (c ⟨h.1.1, h.1.2, h.2⟩).elim
        rw [if_neg]
        intro h
        simp only [Bool.and_eq_true, decide_eq_true_eq] at h
        exact c ⟨h.2.2.2.2.1, h.2.2.2.2.2.2.2.1, h.2.2.2.2.2.2.2.2.2.2.1⟩
  · rw [dateP, dateR, if_neg (fun h => h19 (fitsB_len h)), if_neg (fun h => h19 h.1)]
end Go.Proofs.YtbeghpkkpnbkgaaGreatDoor
/- A value of an order; which ranges may be. -/
namespace Go.Proofs.YtbeghpkkpnbkgaaGreatDoor
open Go.RowKit
section
variable (numB : List UInt8 → Bool)
def isVP (o : UInt8) (b : List UInt8) : Bool :=
  if o = 1 then true else if o = 2 then numB b else if o = 3 then (clockP b).isSome else if o = 4 then true else if o = 5 then (dateP b).isSome else false
end
section
variable {G : Nat → Option (List D)} {numB : List UInt8 → Bool}
theorem fo1 : funcOk Tryz.prog 94 = true := by kernel_rfl
theorem fo2 : funcOk Tryz.prog 108 = true := by kernel_rfl
theorem fo3 : funcOk Tryz.prog 116 = true := by kernel_rfl
theorem fo4 : funcOk Tryz.prog 99 = true := by kernel_rfl
theorem compare_m (H2 : ∀ b : List UInt8, b.length ≤ 1000000000 → Spec Tryz.prog G 108 [.c (.sl b.length (b.map bD)), .c (.sl b.length (b.map bD)), .c (.ptr [fnV 96] 0)] (.many [iD 0, .c (.v (.bool (numB b)))]))
    (o : UInt8) (b : List UInt8) (hn : b.length ≤ 1000000000) : Spec Tryz.prog G 125 [.c (bD o), .c (.sl b.length (b.map bD)), .c (.sl b.length (b.map bD))] (.many [iD 0, .c (.v (.bool (isVP numB o b)))]) := by
  have ho := of_m (G := G) o
  have h1 := alpha_m (G := G) b hn
  have h2 := H2 b hn
  have h3 := byL_m (G := G) 98 b.length (b.map bD) (clockP b) (by kernel_rfl) (clock_m b _ rfl hn)
  have h4 := binary_m (G := G) b hn
  have h5 := byL_m (G := G) 100 b.length (b.map bD) (dateP b) (by kernel_rfl) (date_m b _ rfl hn)
  unfold isVP
  unfold ofD at ho
  generalize clockP b = oc at *
  generalize dateP b = od at *
  generalize numB b = nb at *
  generalize b.map bD = L at *
  generalize b.length = n at *
  unfold iD bD fnV at *
  have f1 := fo1
  have f2 := fo2
  have f3 := fo3
  have f4 := fo4
  by_cases c1 : o = 1
  · rw [if_pos c1] at ho ⊢
    refine spec_of Tryz.func125 rfl rfl rfl (by kernel_rfl) rfl fun K => ?_
    (repeat' (first | with_reducible (first | refine zA fun Kn hK => ?_ | refine zB (by kernel_rfl) ?_ | refine Nx.go ?_ | go_step) | (refine ⟨_, ho, ?_⟩) | (refine ⟨_, h1, ?_⟩) | with_reducible (first | refine zI ?_ | refine zJ ?_ | refine zK ?_ ?_ | refine zL ?_ ?_ | refine zR (by kernel_rfl) ?_) | simp (maxSteps := 9999999) (disch := omega) only [wq] | (with_reducible refine zM (fun hb => ?_) (fun hb => ?_) <;> (try simp only [hb])) | (with_reducible refine And.intro (by first | omega | (simp; done) | (simp; omega)) ?_) | simp (maxSteps := 9999999) (implicitDefEqProofs := false) only [go_sem, f1] | fail))
    try rfl
  rw [if_neg c1] at ho ⊢
  by_cases c2 : o = 2
  · rw [if_pos c2] at ho ⊢
    refine spec_of Tryz.func125 rfl rfl rfl (by kernel_rfl) rfl fun K => ?_
    (repeat' (first | with_reducible (first | refine zA fun Kn hK => ?_ | refine zB (by kernel_rfl) ?_ | refine Nx.go ?_ | go_step) | (refine ⟨_, ho, ?_⟩) | (refine ⟨_, h2, ?_⟩) | with_reducible (first | refine zI ?_ | refine zJ ?_ | refine zK ?_ ?_ | refine zL ?_ ?_ | refine zR (by kernel_rfl) ?_) | simp (maxSteps := 9999999) (disch := omega) only [wq] | (with_reducible refine zM (fun hb => ?_) (fun hb => ?_) <;> (try simp only [hb])) | (with_reducible refine And.intro (by first | omega | (simp; done) | (simp; omega)) ?_) | simp (maxSteps := 9999999) (implicitDefEqProofs := false) only [go_sem, f2, List.map_cons, List.map_nil] | fail))
    try rfl
  rw [if_neg c2] at ho ⊢
  by_cases c3 : o = 3
  · rw [if_pos c3] at ho ⊢
    refine spec_of Tryz.func125 rfl rfl rfl (by kernel_rfl) rfl fun K => ?_
    (repeat' (first | with_reducible (first | refine zA fun Kn hK => ?_ | refine zB (by kernel_rfl) ?_ | refine Nx.go ?_ | go_step) | (refine ⟨_, ho, ?_⟩) | (refine ⟨_, h3, ?_⟩) | with_reducible (first | refine zI ?_ | refine zJ ?_ | refine zK ?_ ?_ | refine zL ?_ ?_ | refine zR (by kernel_rfl) ?_) | simp (maxSteps := 9999999) (disch := omega) only [wq] | (with_reducible refine zM (fun hb => ?_) (fun hb => ?_) <;> (try simp only [hb])) | (with_reducible refine And.intro (by first | omega | (simp; done) | (simp; omega)) ?_) | simp (maxSteps := 9999999) (implicitDefEqProofs := false) only [go_sem, f3, List.map_cons, List.map_nil] | fail))
    try rfl
  rw [if_neg c3] at ho ⊢
  by_cases c4 : o = 4
  · rw [if_pos c4] at ho ⊢
    refine spec_of Tryz.func125 rfl rfl rfl (by kernel_rfl) rfl fun K => ?_
    (repeat' (first | with_reducible (first | refine zA fun Kn hK => ?_ | refine zB (by kernel_rfl) ?_ | refine Nx.go ?_ | go_step) | (refine ⟨_, ho, ?_⟩) | (refine ⟨_, h4, ?_⟩) | with_reducible (first | refine zI ?_ | refine zJ ?_ | refine zK ?_ ?_ | refine zL ?_ ?_ | refine zR (by kernel_rfl) ?_) | simp (maxSteps := 9999999) (disch := omega) only [wq] | (with_reducible refine zM (fun hb => ?_) (fun hb => ?_) <;> (try simp only [hb])) | (with_reducible refine And.intro (by first | omega | (simp; done) | (simp; omega)) ?_) | simp (maxSteps := 9999999) (implicitDefEqProofs := false) only [go_sem, f4] | fail))
    try rfl
  rw [if_neg c4] at ho ⊢
  by_cases c5 : o = 5
  · rw [if_pos c5] at ho ⊢
    refine spec_of Tryz.func125 rfl rfl rfl (by kernel_rfl) rfl fun K => ?_
    (repeat' (first | with_reducible (first | refine zA fun Kn hK => ?_ | refine zB (by kernel_rfl) ?_ | refine Nx.go ?_ | go_step) | (refine ⟨_, ho, ?_⟩) | (refine ⟨_, h5, ?_⟩) | with_reducible (first | refine zI ?_ | refine zJ ?_ | refine zK ?_ ?_ | refine zL ?_ ?_ | refine zR (by kernel_rfl) ?_) | simp (maxSteps := 9999999) (disch := omega) only [wq] | (with_reducible refine zM (fun hb => ?_) (fun hb => ?_) <;> (try simp only [hb])) | (with_reducible refine And.intro (by first | omega | (simp; done) | (simp; omega)) ?_) | simp (maxSteps := 9999999) (implicitDefEqProofs := false) only [go_sem, f3, List.map_cons, List.map_nil] | fail))
    try rfl
  rw [if_neg c5] at ho ⊢
  refine spec_of Tryz.func125 rfl rfl rfl (by kernel_rfl) rfl fun K => ?_
  (repeat' (first | with_reducible (first | refine zA fun Kn hK => ?_ | refine zB (by kernel_rfl) ?_ | refine Nx.go ?_ | go_step) | (refine ⟨_, ho, ?_⟩) | with_reducible (first | refine zI ?_ | refine zJ ?_ | refine zK ?_ ?_ | refine zL ?_ ?_ | refine zR (by kernel_rfl) ?_) | simp (maxSteps := 9999999) (disch := omega) only [wq] | (with_reducible refine zM (fun hb => ?_) (fun hb => ?_) <;> (try simp only [hb])) | (with_reducible refine And.intro (by first | omega | (simp; done) | (simp; omega)) ?_) | simp (maxSteps := 9999999) (implicitDefEqProofs := false) only [go_sem, true_and] | fail))
  try rfl
end
end Go.Proofs.YtbeghpkkpnbkgaaGreatDoor
/- Tags, plainly: which are right, their values, of which value one is got. -/
namespace Go.Proofs.YtbeghpkkpnbkgaaGreatDoor
/-! words -/
def wStar : List UInt8 := [42]
def wSet : List UInt8 := [115, 101, 116]
def wPrefix : List UInt8 := [112, 114, 101, 102, 105, 120]
def wRange : List UInt8 := [114, 97, 110, 103, 101]
def wG : List UInt8 := [103]
def wL : List UInt8 := [108]
def ordW : List (List UInt8) := [[97, 108, 112, 104, 97], [110, 117, 109, 101, 114, 105, 99], [116, 105, 109, 101], [98, 105, 110, 97, 114, 121], [100, 97, 116, 101]]
def ordN (o : UInt8) : List UInt8 := (ordW[o.toNat - 1]?).getD []
def Bd.none : Bd := ⟨false, false, []⟩
def Tg.plain (t : Tg) : Bool := decide (t.ord = 0) && (decide (t.lo = Bd.none) && decide (t.hi = Bd.none))
def emptyL {α : Type} (l : List α) : Bool := match l with
  | [] => true
  | _ => false
theorem emptyL_iff {α : Type} {l : List α} : emptyL l = true ↔ l = [] := by cases l <;> simp [emptyL]
section
variable (isV : UInt8 → List UInt8 → Bool)
def mayE (o : UInt8) (b : Bd) : Bool := if b.is then isV o b.txt else !b.opn && emptyL b.txt
def mayR (o : UInt8) (lo hi : Bd) : Bool := decide (1 ≤ o.toNat ∧ o.toNat ≤ 5) && (mayE isV o lo && mayE isV o hi)
/-- Are the fields as the kind tells? -/
def Tg.blank (t : Tg) : Bool :=
  if t.kind = 1 then t.plain && (emptyL t.data && emptyL t.kids)
  else if t.kind = 2 ∨ t.kind = 5 then t.plain && emptyL t.kids
  else if t.kind = 3 ∨ t.kind = 4 then t.plain && emptyL t.data
  else decide (t.kind = 6) && (mayR isV t.ord t.lo t.hi && (emptyL t.data && emptyL t.kids))
def Tg.starA (t : Tg) : Bool := decide (t.kind = 2) && decide (t.data = wStar)
def headA (l : List Tg) : Bool := match l with
  | [] => false
  | x :: _ => x.starA
def Tg.starL (t : Tg) : Bool := decide (t.kind = 3) && headA t.kids
def Tg.ok (t : Tg) : Bool := t.blank isV && !t.starL
def Tg.right (t : Tg) : Bool := t.ok isV && t.kids.attach.all fun x => Tg.right x.1
termination_by SizeOf.sizeOf t
decreasing_by exact Tg.kid_lt x.2
theorem Tg.right_eq (t : Tg) : t.right isV = (t.ok isV && t.kids.all (Tg.right isV)) := by
  rw [Tg.right]
  congr 1
  simp
/-- A tag's value. -/
def bdT (b : Bd) (w : List UInt8) : List Tree := if b.is then [atomT (if b.opn then w else w ++ [101]), atomT b.txt] else []
def Tg.val (t : Tg) : Tree :=
  if t.kind = 1 then listT [atomT wStar]
  else if t.kind = 2 then atomT t.data
  else if t.kind = 4 then listT (atomT wStar :: atomT wSet :: t.kids.attach.map fun x => Tg.val x.1)
  else if t.kind = 5 then listT [atomT wStar, atomT wPrefix, atomT t.data]
  else if t.kind = 6 then listT (atomT wStar :: atomT wRange :: atomT (ordN t.ord) :: (bdT t.lo wG ++ bdT t.hi wL))
  else listT (t.kids.attach.map fun x => Tg.val x.1)
termination_by SizeOf.sizeOf t
decreasing_by all_goals exact Tg.kid_lt x.2
theorem Tg.val_eq (t : Tg) : t.val =
    if t.kind = 1 then listT [atomT wStar]
    else if t.kind = 2 then atomT t.data
    else if t.kind = 4 then listT (atomT wStar :: atomT wSet :: t.kids.map Tg.val)
    else if t.kind = 5 then listT [atomT wStar, atomT wPrefix, atomT t.data]
    else if t.kind = 6 then listT (atomT wStar :: atomT wRange :: atomT (ordN t.ord) :: (bdT t.lo wG ++ bdT t.hi wL))
    else listT (t.kids.map Tg.val) := by
  rw [Tg.val]
  simp
/-! the tag of a value -/
def aTg (d : List UInt8) : Tg := .mk 2 d [] 0 Bd.none Bd.none
def kTg (k : UInt8) (l : List Tg) : Tg := .mk k [] l 0 Bd.none Bd.none
def allSome {α : Type} : List (Option α) → Option (List α)
  | [] => some []
  | none :: _ => none
  | some x :: l => (allSome l).map (x :: ·)
/-- An end that stands in front, and what stands behind it. -/
def endT (l : List Tree) (w : List UInt8) : Option (Bd × List Tree) := match l with
  | [] => some (Bd.none, [])
  | x :: l => if isB x w || isB x (w ++ [101]) then (match l with
      | [] => none
      | y :: l => if y.list || y.hinted then none else some (⟨true, isB x w, y.data⟩, l))
    else some (Bd.none, x :: l)
def findW (x : Tree) : List (List UInt8) → Nat → Option Nat
  | [], _ => none
  | w :: ws, k => if isB x w then some k else findW x ws (k + 1)
def rangeT (l : List Tree) : Option Tg := match l with
  | [] => none
  | x :: l => match findW x ordW 1 with
    | none => none
    | some o => match endT l wG with
      | none => none
      | some (lo, l1) => match endT l1 wL with
        | none => none
        | some (hi, l2) => if emptyL l2 && mayR isV (UInt8.ofNat o) lo hi then some (.mk 6 [] [] (UInt8.ofNat o) lo hi) else none
def prefT (l : List Tree) : Option Tg := match l with
  | [y] => if y.list || y.hinted then none else some (.mk 5 y.data [] 0 Bd.none Bd.none)
  | _ => none
/-- Behind a star. sub: the tags of what stands behind the first word. -/
def starT (l : List Tree) (sub : Option (List Tg)) : Option Tg := match l with
  | [] => some (kTg 1 [])
  | x :: l => if isB x wSet then sub.map (kTg 4)
    else if isB x wPrefix then prefT l
    else if isB x wRange then rangeT isV l
    else none
def getT (t : Tree) : Option Tg :=
  if t.list then
    if headB t wStar then starT isV (t.kids.drop 1) (allSome ((t.kids.attach.map fun x => getT x.1).drop 2))
    else (allSome (t.kids.attach.map fun x => getT x.1)).map (kTg 3)
  else if t.hinted then none else some (aTg t.data)
termination_by SizeOf.sizeOf t
decreasing_by all_goals exact Tree.kid_lt x.2
theorem getT_eq (t : Tree) : getT isV t =
    if t.list then
      if headB t wStar then starT isV (t.kids.drop 1) (allSome ((t.kids.map (getT isV)).drop 2))
      else (allSome (t.kids.map (getT isV))).map (kTg 3)
    else if t.hinted then none else some (aTg t.data) := by
  rw [getT]
  simp
end
theorem allSome_map {α β : Type} {f : α → Option β} {l : List α} {m : List β} (h : allSome (l.map f) = some m) : l.length = m.length ∧ ∀ (i : Nat) x, l[i]? = some x → ∃ y, f x = some y ∧ m[i]? = some y := by
  induction l generalizing m with
  | nil =>
    simp [allSome] at h
    subst h
    exact ⟨rfl, fun i x hx => by simp at hx⟩
  | cons a l ih =>
    rw [List.map_cons] at h
    cases ha : f a with
    | none => rw [ha] at h; simp [allSome] at h
    | some b =>
      rw [ha] at h
      simp only [allSome, Option.map_eq_some_iff] at h
      obtain ⟨k, hk, rfl⟩ := h
      obtain ⟨h1, h2⟩ := ih hk
      refine ⟨by simp [h1], fun i x hx => ?_⟩
      cases i with
      | zero => simp at hx; subst hx; exact ⟨b, ha, rfl⟩
      | succ i => simpa using h2 i x (by simpa using hx)
theorem allSome_of {α β : Type} {f : α → Option β} {g : β → α} {m : List β} (h : ∀ y ∈ m, f (g y) = some y) : allSome ((m.map g).map f) = some m := by
  induction m with
  | nil => rfl
  | cons y m ih =>
    rw [List.map_cons, List.map_cons, h y (by simp), allSome, ih fun z hz => h z (by simp [hz])]
    rfl
section
variable {isV : UInt8 → List UInt8 → Bool}
theorem map_back_val {l : List Tree} {m : List Tg} (h1 : l.length = m.length) (h2 : ∀ (i : Nat) x y, l[i]? = some x → m[i]? = some y → y.val = x) : m.map Tg.val = l := by
  refine List.ext_getElem? fun i => ?_
  rw [List.getElem?_map]
  by_cases hi : i < m.length
  · rw [List.getElem?_eq_getElem hi, List.getElem?_eq_getElem (by omega : i < l.length)]
    simp only [Option.map_some]
    exact congrArg some (h2 i _ _ (List.getElem?_eq_getElem (by omega)) (List.getElem?_eq_getElem hi))
  · rw [List.getElem?_eq_none (by omega), List.getElem?_eq_none (by omega)]
    rfl
theorem kid_clean {v x : Tree} (h : v.clean = true) (hx : x ∈ v.kids) : x.clean = true := by
  rw [Tree.clean_eq, Bool.and_eq_true] at h
  exact List.all_eq_true.1 h.2 x hx
theorem clean_fair {v : Tree} (h : v.clean = true) : v.fair = true := by
  rw [Tree.clean_eq, Bool.and_eq_true] at h
  exact h.1
theorem isB_atom {a b : List UInt8} : isB (atomT a) b = decide (a = b) := by
  rw [Bool.eq_iff_iff]
  simp [isB, atomT, Tree.list, Tree.hinted, Tree.data]
/-- An end is read as it was put. -/
theorem endT_bdT {b : Bd} {w : List UInt8} {l : List Tree} {o : UInt8} (hm : mayE isV o b = true) (hl : ∀ x l', l = x :: l' → isB x w = false ∧ isB x (w ++ [101]) = false) : endT (bdT b w ++ l) w = some (b, l) := by
  unfold bdT
  cases hb : b.is with
  | true =>
    have hne : ¬ (w ++ [101] = w) := fun e => by
      have := congrArg List.length e
      simp at this
    obtain ⟨i, o, t⟩ := b
    dsimp only at hb
    subst hb
    cases o <;> simp [endT, isB_atom, hne] <;> simp [atomT, Tree.list, Tree.hinted, Tree.data]
  | false =>
    rw [mayE, hb] at hm
    simp only [Bool.false_eq_true, if_false, Bool.and_eq_true, Bool.not_eq_true', emptyL_iff] at hm
    have e : b = Bd.none := by
      obtain ⟨i, o, t⟩ := b
      simp at hb hm
      simp [Bd.none, hb, hm]
    rw [e]
    simp only [Bool.false_eq_true, if_false, List.nil_append]
    cases l with
    | nil => rfl
    | cons x l =>
      obtain ⟨h1, h2⟩ := hl x l rfl
      simp [endT, h1, h2]
/-- What is read as an end is put so. -/
theorem bdT_endT {l l' : List Tree} {b : Bd} {w : List UInt8} (hc : ∀ x ∈ l, x.clean = true) (h : endT l w = some (b, l')) : l = bdT b w ++ l' ∧ (∀ x ∈ l', x.clean = true) := by
  cases l with
  | nil =>
    simp [endT] at h
    obtain ⟨rfl, rfl⟩ := h
    exact ⟨rfl, hc⟩
  | cons x l =>
    have hx := clean_fair (hc x (by simp))
    simp only [endT] at h
    by_cases hw : (isB x w || isB x (w ++ [101])) = true
    · rw [if_pos hw] at h
      cases l with
      | nil => simp at h
      | cons y l =>
        have hy := clean_fair (hc y (by simp))
        dsimp only at h
        by_cases hp : (y.list || y.hinted) = true
        · rw [if_pos hp] at h
          cases h
        · rw [if_neg hp] at h
          simp only [Option.some.injEq, Prod.mk.injEq] at h
          obtain ⟨rfl, rfl⟩ := h
          simp only [Bool.or_eq_true, not_or, Bool.not_eq_true] at hp
          refine ⟨?_, fun z hz => hc z (by simp [hz])⟩
          have hye := fair_atomT hy hp.1 hp.2
          have hxe : x = atomT (if isB x w then w else w ++ [101]) := by
            cases h1 : isB x w with
            | true => exact (isB_iff hx).1 h1
            | false =>
              rw [h1] at hw
              exact (isB_iff hx).1 (by simpa using hw)
          show x :: y :: l = _
          rw [bdT]
          simp only [if_true]
          rw [← hxe, ← hye]
          rfl
    · rw [if_neg hw] at h
      simp only [Option.some.injEq, Prod.mk.injEq] at h
      obtain ⟨rfl, rfl⟩ := h
      exact ⟨rfl, hc⟩
theorem ordN_ne {o : UInt8} (h : 1 ≤ o.toNat ∧ o.toNat ≤ 5) : findW (atomT (ordN o)) ordW 1 = some o.toNat := by
  have key : ∀ n, 1 ≤ n → n ≤ 5 → findW (atomT ((ordW[n - 1]?).getD [])) ordW 1 = some n := by
    intro n h1 h2
    match n, h1, h2 with
    | 1, _, _ => decide
    | 2, _, _ => decide
    | 3, _, _ => decide
    | 4, _, _ => decide
    | 5, _, _ => decide
  exact key _ h.1 h.2
theorem findW_spec {x : Tree} (hx : x.fair = true) : ∀ {ws : List (List UInt8)} {k o : Nat}, findW x ws k = some o → ∃ j w, o = k + j ∧ ws[j]? = some w ∧ x = atomT w
  | [], k, o, h => by simp [findW] at h
  | w :: ws, k, o, h => by
    rw [findW] at h
    by_cases hw : isB x w = true
    · rw [if_pos hw] at h
      simp at h
      subst h
      exact ⟨0, w, rfl, rfl, (isB_iff hx).1 hw⟩
    · rw [if_neg hw] at h
      obtain ⟨j, w', rfl, h1, h2⟩ := findW_spec hx h
      exact ⟨j + 1, w', by omega, by simpa using h1, h2⟩
theorem range_back {l : List Tree} {u : Tg} (hc : ∀ x ∈ l, x.clean = true) (h : rangeT isV l = some u) : ∃ o lo hi, u = .mk 6 [] [] o lo hi ∧ mayR isV o lo hi = true ∧ l = atomT (ordN o) :: (bdT lo wG ++ bdT hi wL) := by
  cases l with
  | nil => simp [rangeT] at h
  | cons x l =>
    have hx := clean_fair (hc x (by simp))
    rw [rangeT] at h
    cases ho : findW x ordW 1 with
    | none => rw [ho] at h; cases h
    | some o =>
      rw [ho] at h
      dsimp only at h
      cases h1 : endT l wG with
      | none => rw [h1] at h; cases h
      | some p =>
        obtain ⟨lo, l1⟩ := p
        rw [h1] at h
        dsimp only at h
        cases h2 : endT l1 wL with
        | none => rw [h2] at h; cases h
        | some p =>
          obtain ⟨hi, l2⟩ := p
          rw [h2] at h
          dsimp only at h
          by_cases h3 : (emptyL l2 && mayR isV (UInt8.ofNat o) lo hi) = true
          · rw [if_pos h3] at h
            simp only [Option.some.injEq] at h
            subst h
            rw [Bool.and_eq_true, emptyL_iff] at h3
            obtain ⟨rfl, hm⟩ := h3
            obtain ⟨e1, c1⟩ := bdT_endT (fun z hz => hc z (by simp [hz])) h1
            obtain ⟨e2, c2⟩ := bdT_endT c1 h2
            obtain ⟨j, w, rfl, hj, hxw⟩ := findW_spec hx ho
            have hj5 : j < 5 := (List.getElem?_eq_some_iff.1 hj).1
            refine ⟨_, lo, hi, rfl, hm, ?_⟩
            have hon : ordN (UInt8.ofNat (1 + j)) = w := by
              unfold ordN
              rw [UInt8.toNat_ofNat_of_lt' (by simp only [UInt8.size]; omega), Nat.add_sub_cancel_left, hj]
              rfl
            rw [hon, ← hxw, e1, e2, List.append_nil]
          · rw [if_neg h3] at h
            cases h
theorem range_fwd {o : UInt8} {lo hi : Bd} (hm : mayR isV o lo hi = true) : rangeT isV (atomT (ordN o) :: (bdT lo wG ++ bdT hi wL)) = some (.mk 6 [] [] o lo hi) := by
  have hm' := hm
  rw [mayR, Bool.and_eq_true, Bool.and_eq_true, decide_eq_true_eq] at hm
  obtain ⟨ho, h1, h2⟩ := hm
  have hhi : ∀ x l', bdT hi wL = x :: l' → isB x wG = false ∧ isB x (wG ++ [101]) = false := fun x l' e => by
    unfold bdT at e
    split at e
    · simp only [List.cons.injEq] at e
      rw [← e.1, isB_atom, isB_atom]
      split <;> decide
    · cases e
  have e1 := endT_bdT (isV := isV) (l := bdT hi wL) h1 hhi
  have e2 := endT_bdT (isV := isV) (b := hi) (w := wL) (l := []) h2 (fun x l' e => by cases e)
  rw [List.append_nil] at e2
  rw [rangeT, ordN_ne ho]
  dsimp only
  rw [e1]
  dsimp only
  rw [e2]
  dsimp only
  have eo : UInt8.ofNat o.toNat = o := UInt8.toNat_inj.1 (by rw [UInt8.toNat_ofNat_of_lt' o.toNat_lt])
  rw [eo, hm']
  rfl
theorem plain_mk {k : UInt8} {d : List UInt8} {l : List Tg} : (Tg.mk k d l 0 Bd.none Bd.none).plain = true := by simp [Tg.plain, Tg.ord, Tg.lo, Tg.hi]
/-- What is got of a value is right, and is put as it stood. -/
theorem get_ok : ∀ (v : Tree) (u : Tg), v.clean = true → getT isV v = some u → u.right isV = true ∧ u.val = v := by
  refine Tree.ind fun v ih u hc h => ?_
  have hf := clean_fair hc
  have hkc : ∀ x ∈ v.kids, x.clean = true := fun x hx => kid_clean hc hx
  have sub : ∀ (n : Nat) (m : List Tg), allSome ((v.kids.map (getT isV)).drop n) = some m → m.map Tg.val = v.kids.drop n ∧ m.all (Tg.right isV) = true := fun n m hm => by
    rw [← List.map_drop] at hm
    obtain ⟨h1, h2⟩ := allSome_map hm
    have h3 : ∀ (i : Nat) x y, (v.kids.drop n)[i]? = some x → m[i]? = some y → y.right isV = true ∧ y.val = x := fun i x y hx hy => by
      obtain ⟨y', hy', e⟩ := h2 i x hx
      rw [hy] at e
      simp at e
      subst e
      have hmem : x ∈ v.kids := List.mem_of_mem_drop (List.mem_of_getElem? hx)
      exact ih x hmem y (hkc x hmem) hy'
    refine ⟨map_back_val h1 fun i x y hx hy => (h3 i x y hx hy).2, List.all_eq_true.2 fun y hy => ?_⟩
    obtain ⟨i, hi⟩ := List.getElem?_of_mem hy
    have hil : i < m.length := (List.getElem?_eq_some_iff.1 hi).1
    exact (h3 i _ y (List.getElem?_eq_getElem (by omega)) hi).1
  rw [getT_eq] at h
  cases hl : v.list with
  | false =>
    rw [hl] at h
    simp only [Bool.false_eq_true, if_false] at h
    cases hh : v.hinted with
    | true => rw [hh] at h; simp at h
    | false =>
      rw [hh] at h
      simp at h
      subst h
      have hv := fair_atomT hf hl hh
      refine ⟨?_, ?_⟩
      · rw [Tg.right_eq]
        simp [Tg.ok, Tg.blank, Tg.starL, aTg, Tg.kind, Tg.kids, plain_mk, emptyL]
      · rw [Tg.val_eq]
        simp [aTg, Tg.kind, Tg.data]
        exact hv.symm
  | true =>
    have hv := fair_listT hf hl
    rw [hl] at h
    simp only [if_true] at h
    by_cases hs : headB v wStar = true
    · rw [if_pos hs] at h
      rw [headB, hl, Bool.true_and] at hs
      cases hk : v.kids with
      | nil => rw [hk] at hs; simp at hs
      | cons x l =>
        rw [hk] at hs
        dsimp only at hs
        have hxs : x = atomT wStar := (isB_iff (clean_fair (hkc x (by rw [hk]; simp)))).1 hs
        have hd : v.kids.drop 1 = l := by rw [hk]; rfl
        have hlc : ∀ z ∈ l, z.clean = true := fun z hz => hkc z (by rw [hk]; simp [hz])
        rw [hd] at h
        cases l with
        | nil =>
          simp [starT] at h
          subst h
          refine ⟨?_, ?_⟩
          · rw [Tg.right_eq]
            simp [Tg.ok, Tg.blank, Tg.starL, kTg, Tg.kind, Tg.kids, Tg.data, plain_mk, emptyL]
          · rw [hv, hk, hxs, Tg.val_eq]
            simp [kTg, Tg.kind]
        | cons y l =>
          have hyf := clean_fair (hlc y (by simp))
          rw [starT] at h
          by_cases h1 : isB y wSet = true
          · rw [if_pos h1, Option.map_eq_some_iff] at h
            obtain ⟨m, hm, rfl⟩ := h
            obtain ⟨e1, e2⟩ := sub 2 m hm
            have hd2 : v.kids.drop 2 = l := by rw [hk]; rfl
            refine ⟨?_, ?_⟩
            · rw [Tg.right_eq]
              simp [Tg.ok, Tg.blank, Tg.starL, kTg, Tg.kind, Tg.kids, Tg.data, plain_mk, emptyL]
              simpa using e2
            · rw [hv, hk, hxs, Tg.val_eq]
              simp only [kTg, Tg.kind, Tg.kids]
              rw [e1, hd2, (isB_iff hyf).1 h1]
              simp
          · rw [if_neg h1] at h
            by_cases h2 : isB y wPrefix = true
            · rw [if_pos h2] at h
              match l, h, hk, hlc with
              | [z], h, hk, hlc =>
                simp only [prefT] at h
                by_cases hp : (z.list || z.hinted) = true
                · rw [if_pos hp] at h
                  cases h
                · rw [if_neg hp] at h
                  simp only [Option.some.injEq] at h
                  subst h
                  simp only [Bool.or_eq_true, not_or, Bool.not_eq_true] at hp
                  have hz := fair_atomT (clean_fair (hlc z (by simp))) hp.1 hp.2
                  refine ⟨?_, ?_⟩
                  · rw [Tg.right_eq]
                    simp [Tg.ok, Tg.blank, Tg.starL, Tg.kind, Tg.kids, Tg.data, plain_mk, emptyL]
                  · rw [hv, hk, hxs, Tg.val_eq, (isB_iff hyf).1 h2]
                    simp only [Tg.kind, Tg.data]
                    rw [← hz]
                    simp
              | [], h, _, _ => cases h
              | _ :: _ :: _, h, _, _ => cases h
            · rw [if_neg h2] at h
              by_cases h3 : isB y wRange = true
              · rw [if_pos h3] at h
                obtain ⟨o, lo, hi, rfl, hm, e⟩ := range_back (fun z hz => hlc z (by simp [hz])) h
                refine ⟨?_, ?_⟩
                · rw [Tg.right_eq]
                  simp [Tg.ok, Tg.blank, Tg.starL, Tg.kind, Tg.kids, Tg.data, Tg.ord, Tg.lo, Tg.hi, emptyL, hm]
                · rw [hv, hk, hxs, Tg.val_eq, (isB_iff hyf).1 h3, e]
                  simp [Tg.kind, Tg.ord, Tg.lo, Tg.hi]
              · rw [if_neg h3] at h
                cases h
    · rw [if_neg hs, Option.map_eq_some_iff] at h
      obtain ⟨m, hm, rfl⟩ := h
      obtain ⟨e1, e2⟩ := sub 0 m (by rw [List.drop_zero]; exact hm)
      rw [List.drop_zero] at e1
      have hst : (kTg 3 m).starL = false := by
        cases m with
        | nil => simp [kTg, Tg.starL, headA, Tg.kind, Tg.kids]
        | cons y m =>
          cases hsa : y.starA with
          | false => simp [kTg, Tg.starL, headA, Tg.kind, Tg.kids, hsa]
          | true =>
            exfalso
            apply hs
            simp only [Tg.starA, Bool.and_eq_true, decide_eq_true_eq] at hsa
            have : y.val = atomT wStar := by
              rw [Tg.val_eq, hsa.1, hsa.2]
              simp
            rw [headB, hl, Bool.true_and, ← e1, List.map_cons]
            dsimp only
            rw [this, isB_atom]
            simp
      refine ⟨?_, ?_⟩
      · rw [Tg.right_eq, Tg.ok, hst]
        simp only [Tg.blank, kTg, Tg.kind, Tg.kids, Tg.data, plain_mk, emptyL]
        simpa using e2
      · rw [hv, Tg.val_eq]
        simp only [kTg, Tg.kind, Tg.kids]
        rw [e1]
        simp
theorem val_list {t : Tg} (h : t.kind ≠ 2) : t.val.list = true := by
  rw [Tg.val_eq]
  repeat' split
  all_goals first | rfl | contradiction
theorem star_val {t : Tg} : isB t.val wStar = t.starA := by
  by_cases h : t.kind = 2
  · rw [Tg.val_eq, h, Tg.starA, h]
    simp [isB_atom]
  · have := val_list h
    simp [isB, this, Tg.starA, h]
theorem blank_of (k : UInt8) (d : List UInt8) (l : List Tg) (o : UInt8) (lo hi : Bd) : (Tg.mk k d l o lo hi).blank isV =
    if k = 1 then (Tg.mk k d l o lo hi).plain && (emptyL d && emptyL l)
    else if k = 2 ∨ k = 5 then (Tg.mk k d l o lo hi).plain && emptyL l
    else if k = 3 ∨ k = 4 then (Tg.mk k d l o lo hi).plain && emptyL d
    else decide (k = 6) && (mayR isV o lo hi && (emptyL d && emptyL l)) := rfl
theorem val_of (k : UInt8) (d : List UInt8) (l : List Tg) (o : UInt8) (lo hi : Bd) : (Tg.mk k d l o lo hi).val =
    if k = 1 then listT [atomT wStar]
    else if k = 2 then atomT d
    else if k = 4 then listT (atomT wStar :: atomT wSet :: l.map Tg.val)
    else if k = 5 then listT [atomT wStar, atomT wPrefix, atomT d]
    else if k = 6 then listT (atomT wStar :: atomT wRange :: atomT (ordN o) :: (bdT lo wG ++ bdT hi wL))
    else listT (l.map Tg.val) := by
  rw [Tg.val_eq]
  rfl
theorem blank_mk {t : Tg} (hp : t.plain = true) : t.ord = 0 ∧ t.lo = Bd.none ∧ t.hi = Bd.none := by
  simpa [Tg.plain] using hp
/-- A right tag is got of its value as it was. -/
theorem put_ok : ∀ t : Tg, t.right isV = true → getT isV t.val = some t := by
  refine Tg.ind fun t ih h => ?_
  rw [Tg.right_eq, Bool.and_eq_true, List.all_eq_true] at h
  obtain ⟨hok, hk⟩ := h
  have ihk : ∀ x ∈ t.kids, getT isV x.val = some x := fun x hx => ih x hx (hk x hx)
  have hall := allSome_of (f := getT isV) (g := Tg.val) ihk
  obtain ⟨k, d, l, o, lo, hi⟩ := t
  simp only [Tg.ok, Bool.and_eq_true, Bool.not_eq_true'] at hok
  obtain ⟨hb, hs⟩ := hok
  have hkv : (Tg.mk k d l o lo hi).kids = l := rfl
  rw [hkv] at hall ihk hk
  rw [val_of]
  rw [blank_of] at hb
  by_cases h1 : k = 1
  · subst h1
    simp only [if_true, Bool.and_eq_true, emptyL_iff] at hb ⊢
    obtain ⟨hp, rfl, rfl⟩ := hb
    obtain ⟨rfl, rfl, rfl⟩ : o = 0 ∧ lo = Bd.none ∧ hi = Bd.none := blank_mk hp
    rw [getT_eq]
    simp [listT, headB, Tree.list, Tree.kids, isB_atom, starT, kTg]
  rw [if_neg h1] at hb
  rw [if_neg h1]
  by_cases h2 : k = 2
  · subst h2
    simp only [true_or, if_true, Bool.and_eq_true, emptyL_iff] at hb ⊢
    obtain ⟨hp, rfl⟩ := hb
    obtain ⟨rfl, rfl, rfl⟩ : o = 0 ∧ lo = Bd.none ∧ hi = Bd.none := blank_mk hp
    rw [getT_eq]
    simp [atomT, Tree.list, Tree.hinted, Tree.data, aTg]
  rw [if_neg h2]
  by_cases h4 : k = 4
  · subst h4
    simp only [if_true, Bool.and_eq_true, emptyL_iff] at hb ⊢
    simp at hb
    obtain ⟨hp, hd⟩ := hb
    rw [emptyL_iff] at hd
    subst hd
    obtain ⟨rfl, rfl, rfl⟩ : o = 0 ∧ lo = Bd.none ∧ hi = Bd.none := blank_mk hp
    rw [getT_eq]
    have e : ((listT (atomT wStar :: atomT wSet :: l.map Tg.val)).kids.map (getT isV)).drop 2 = (l.map Tg.val).map (getT isV) := rfl
    rw [e, hall]
    simp [listT, headB, Tree.list, Tree.kids, isB_atom, starT, kTg]
  rw [if_neg h4]
  by_cases h5 : k = 5
  · subst h5
    simp at hb ⊢
    obtain ⟨hp, hd⟩ := hb
    rw [emptyL_iff] at hd
    subst hd
    obtain ⟨rfl, rfl, rfl⟩ : o = 0 ∧ lo = Bd.none ∧ hi = Bd.none := blank_mk hp
    rw [getT_eq]
    have e1 : isB (atomT wPrefix) wSet = false := by decide
    have e2 : isB (atomT wPrefix) wPrefix = true := by decide
    have e0 : isB (atomT wStar) wStar = true := by decide
    simp [listT, headB, Tree.list, Tree.kids, starT, prefT, e0, e1, e2]
    simp [atomT, Tree.list, Tree.hinted, Tree.data]
  rw [if_neg h5]
  by_cases h6 : k = 6
  · subst h6
    simp at hb ⊢
    obtain ⟨hm, hd, hl⟩ := hb
    rw [emptyL_iff] at hd hl
    subst hd hl
    rw [getT_eq]
    have e1 : isB (atomT wRange) wSet = false := by decide
    have e2 : isB (atomT wRange) wPrefix = false := by decide
    have e3 : isB (atomT wRange) wRange = true := by decide
    have e4 : headB (listT (atomT wStar :: atomT wRange :: atomT (ordN o) :: (bdT lo wG ++ bdT hi wL))) wStar = true := by simp [headB, listT, Tree.list, Tree.kids, isB_atom]
    rw [e4]
    simp only [listT, Tree.list, Tree.kids, if_true, List.drop_succ_cons, List.drop_zero, starT, e1, e2, e3, Bool.false_eq_true, if_false]
    exact range_fwd hm
  rw [if_neg h6]
  by_cases h3 : k = 3
  · subst h3
    simp at hb
    obtain ⟨hp, hd⟩ := hb
    rw [emptyL_iff] at hd
    subst hd
    obtain ⟨rfl, rfl, rfl⟩ : o = 0 ∧ lo = Bd.none ∧ hi = Bd.none := blank_mk hp
    rw [getT_eq]
    have e4 : headB (listT (l.map Tg.val)) wStar = false := by
      cases l with
      | nil => simp [headB, listT, Tree.list, Tree.kids]
      | cons x l =>
        simp only [Tg.starL, headA, Tg.kind, Tg.kids, decide_true, Bool.true_and] at hs
        simp only [headB, listT, Tree.list, Tree.kids, List.map_cons, Bool.true_and]
        rw [star_val, hs]
    have e5 : (listT (l.map Tg.val)).kids.map (getT isV) = (l.map Tg.val).map (getT isV) := rfl
    rw [e4, e5, hall]
    simp [listT, Tree.list, kTg]
  · exfalso
    simp [h2, h5, h3, h4, h6] at hb
/-- Without hints, and stars ahead? -/
def Tree.conc (v : Tree) : Bool := !v.hinted && (!headB v wStar && v.kids.attach.all fun x => Tree.conc x.1)
termination_by SizeOf.sizeOf v
decreasing_by exact Tree.kid_lt x.2
theorem Tree.conc_eq (v : Tree) : v.conc = (!v.hinted && (!headB v wStar && v.kids.all Tree.conc)) := by
  rw [Tree.conc]
  congr 2
  simp
theorem conc_get : ∀ v : Tree, v.clean = true → v.conc = true → ∃ u, getT isV v = some u ∧ (u.kind = 2 ∨ u.kind = 3) := by
  refine Tree.ind fun v ih hc h => ?_
  rw [Tree.conc_eq] at h
  simp only [Bool.and_eq_true, Bool.not_eq_true', List.all_eq_true] at h
  obtain ⟨hh, hs, hk⟩ := h
  rw [getT_eq]
  cases hl : v.list with
  | false => exact ⟨aTg v.data, by simp [hh], .inl rfl⟩
  | true =>
    have : ∀ l : List Tree, (∀ x ∈ l, ∃ u, getT isV x = some u) → ∃ m, allSome (l.map (getT isV)) = some m := by
      intro l
      induction l with
      | nil => exact fun _ => ⟨[], rfl⟩
      | cons x l ih2 =>
        intro hx
        obtain ⟨u, hu⟩ := hx x (by simp)
        obtain ⟨m, hm⟩ := ih2 fun y hy => hx y (by simp [hy])
        exact ⟨u :: m, by rw [List.map_cons, hu, allSome, hm]; rfl⟩
    obtain ⟨m, hm⟩ := this v.kids fun x hx => by
      obtain ⟨u, hu, _⟩ := ih x hx (kid_clean hc hx) (hk x hx)
      exact ⟨u, hu⟩
    exact ⟨kTg 3 m, by simp [hs, hm], .inr rfl⟩
theorem list_get {l : List Tg} (h : ∀ x ∈ l, x.right isV = true) (hs : headA l = false) : getT isV (listT (l.map Tg.val)) = some (kTg 3 l) := by
  have hr : (kTg 3 l).right isV = true := by
    rw [Tg.right_eq, Bool.and_eq_true, Tg.ok, Bool.and_eq_true]
    refine ⟨⟨by simp [kTg, blank_of, plain_mk, emptyL], ?_⟩, List.all_eq_true.2 h⟩
    simp only [Tg.starL, kTg, Tg.kind, Tg.kids, decide_true, Bool.true_and, Bool.not_eq_true']
    exact hs
  have hp := put_ok _ hr
  rw [kTg, val_of] at hp
  show getT isV _ = some (.mk 3 [] l 0 Bd.none Bd.none)
  simpa using hp
/-! how great -/
end
end Go.Proofs.YtbeghpkkpnbkgaaGreatDoor
/- Whether bytes are a value; whether an end may be. -/
namespace Go.Proofs.YtbeghpkkpnbkgaaGreatDoor
open Go.RowKit
section
variable {G : Nat → Option (List D)} {numB : List UInt8 → Bool}
theorem is_w (o : UInt8) (n : Nat) (L : List D) (q : Bool) (h : Spec Tryz.prog G 125 [.c (bD o), .c (.sl n L), .c (.sl n L)] (.many [iD 0, .c (.v (.bool q))])) : Spec Tryz.prog G 101 [.c (bD o), .c (.sl n L)] (.one (.c (.v (.bool q)))) := by
  unfold iD bD at *
  refine spec_of Tryz.func101 rfl rfl rfl (by kernel_rfl) rfl fun K => ?_
  (repeat' (first | with_reducible (first | refine zA fun Kn hK => ?_ | refine zB (by kernel_rfl) ?_ | refine Nx.go ?_ | go_step) | (refine ⟨_, h, ?_⟩) | with_reducible (first | refine zI ?_ | refine zJ ?_ | refine zK ?_ ?_ | refine zL ?_ ?_ | refine zR (by kernel_rfl) ?_) | simp (maxSteps := 9999999) (disch := omega) only [wq] | (with_reducible refine zM (fun hb => ?_) (fun hb => ?_) <;> (try simp only [hb])) | (with_reducible refine And.intro (by first | omega | (simp; done) | (simp; omega)) ?_) | simp (maxSteps := 9999999) (implicitDefEqProofs := false) only [go_sem, true_and] | fail))
/-- An end, as data: three cells. -/
def bdD (b : Bd) : List D := [.v (.bool b.is), .v (.bool b.opn), .sl b.txt.length (b.txt.map bD)]
theorem end_w (o : UInt8) (b : Bd) (q : Bool) (hn : b.txt.length ≤ 1000000000) (h : b.is = true → Spec Tryz.prog G 101 [.c (bD o), .c (.sl b.txt.length (b.txt.map bD))] (.one (.c (.v (.bool q))))) : Spec Tryz.prog G 86 [.c (bD o), .g (bdD b)] (.one (.c (.v (.bool (if b.is then q else !b.opn && decide (b.txt.length = 0)))))) := by
  obtain ⟨i, p, t⟩ := b
  have e : ((t.length : Int) == 0) = decide (t.length = 0) := nbeq t.length 0
  unfold bdD bD at *
  dsimp only at *
  generalize t.map _ = L at *
  generalize t.length = n at *
  cases i with
  | false =>
    cases p <;> (generalize decide (n = 0) = z at *)
    · refine spec_of Tryz.func86 rfl rfl rfl (by kernel_rfl) rfl fun K => ?_
      (repeat' (first | with_reducible (first | refine zA fun Kn hK => ?_ | refine zB (by kernel_rfl) ?_ | refine Nx.go ?_ | go_step) | fail | with_reducible (first | refine zI ?_ | refine zJ ?_ | refine zK ?_ ?_ | refine zL ?_ ?_ | refine zR (by kernel_rfl) ?_) | simp (maxSteps := 9999999) (disch := omega) only [wq] | (with_reducible refine zM (fun hb => ?_) (fun hb => ?_) <;> (try simp only [hb])) | (with_reducible refine And.intro (by first | omega | (simp; done) | (simp; omega)) ?_) | simp (maxSteps := 9999999) (implicitDefEqProofs := false) only [go_sem, e] | fail))
      try rfl
    · refine spec_of Tryz.func86 rfl rfl rfl (by kernel_rfl) rfl fun K => ?_
      (repeat' (first | with_reducible (first | refine zA fun Kn hK => ?_ | refine zB (by kernel_rfl) ?_ | refine Nx.go ?_ | go_step) | fail | with_reducible (first | refine zI ?_ | refine zJ ?_ | refine zK ?_ ?_ | refine zL ?_ ?_ | refine zR (by kernel_rfl) ?_) | simp (maxSteps := 9999999) (disch := omega) only [wq] | (with_reducible refine zM (fun hb => ?_) (fun hb => ?_) <;> (try simp only [hb])) | (with_reducible refine And.intro (by first | omega | (simp; done) | (simp; omega)) ?_) | simp (maxSteps := 9999999) (implicitDefEqProofs := false) only [go_sem, e] | fail))
      try rfl
  | true =>
    have h := h rfl
    refine spec_of Tryz.func86 rfl rfl rfl (by kernel_rfl) rfl fun K => ?_
    (repeat' (first | with_reducible (first | refine zA fun Kn hK => ?_ | refine zB (by kernel_rfl) ?_ | refine Nx.go ?_ | go_step) | (refine ⟨_, h, ?_⟩) | with_reducible (first | refine zI ?_ | refine zJ ?_ | refine zK ?_ ?_ | refine zL ?_ ?_ | refine zR (by kernel_rfl) ?_) | simp (maxSteps := 9999999) (disch := omega) only [wq] | (with_reducible refine zM (fun hb => ?_) (fun hb => ?_) <;> (try simp only [hb])) | (with_reducible refine And.intro (by first | omega | (simp; done) | (simp; omega)) ?_) | simp (maxSteps := 9999999) (implicitDefEqProofs := false) only [go_sem, e] | fail))
    try rfl
end
end Go.Proofs.YtbeghpkkpnbkgaaGreatDoor
/- How great tags' values are. -/
namespace Go.Proofs.YtbeghpkkpnbkgaaGreatDoor
def Tg.nodes (t : Tg) : Nat := 1 + (t.kids.attach.map fun x => Tg.nodes x.1).sum
termination_by SizeOf.sizeOf t
decreasing_by exact Tg.kid_lt x.2
theorem Tg.nodes_eq (t : Tg) : t.nodes = 1 + (t.kids.map Tg.nodes).sum := by
  rw [Tg.nodes]
  congr 2
  simp
section
variable (isV : UInt8 → List UInt8 → Bool)
/-- Right, and not too deep. -/
def Tg.rightD (t : Tg) (deep : Nat) : Bool := t.ok isV && (decide (deep ≤ 17) && t.kids.attach.all fun x => Tg.rightD x.1 (deep + 1))
termination_by SizeOf.sizeOf t
decreasing_by exact Tg.kid_lt x.2
theorem Tg.rightD_eq (t : Tg) (deep : Nat) : t.rightD isV deep = (t.ok isV && (decide (deep ≤ 17) && t.kids.all fun x => x.rightD isV (deep + 1))) := by
  rw [Tg.rightD]
  congr 2
  simp
end
section
variable {isV : UInt8 → List UInt8 → Bool}
theorem right_of_D : ∀ (t : Tg) (n : Nat), t.rightD isV n = true → t.right isV = true := by
  refine Tg.ind fun t ih n h => ?_
  rw [Tg.rightD_eq] at h
  simp only [Bool.and_eq_true, List.all_eq_true] at h
  rw [Tg.right_eq, Bool.and_eq_true, List.all_eq_true]
  exact ⟨h.1, fun x hx => ih x hx (n + 1) (h.2.2 x hx)⟩
/-- What has kids is a list of their values, behind some words. -/
theorem val_kids {t : Tg} (h : t.right isV = true) (hk : t.kids ≠ []) : ∃ l, t.val = listT (l ++ t.kids.map Tg.val) := by
  rw [Tg.right_eq, Bool.and_eq_true] at h
  obtain ⟨k, d, l, o, lo, hi⟩ := t
  obtain ⟨hok, _⟩ := h
  rw [Tg.ok, Bool.and_eq_true, blank_of] at hok
  have hl : l ≠ [] := hk
  have he : emptyL l = false := by cases l <;> simp_all [emptyL]
  rw [val_of]
  show ∃ m, _ = listT (m ++ l.map Tg.val)
  obtain ⟨hb, _⟩ := hok
  by_cases h1 : k = 1
  · rw [if_pos h1, he] at hb
    simp at hb
  rw [if_neg h1] at hb
  rw [if_neg h1]
  by_cases h25 : k = 2 ∨ k = 5
  · rw [if_pos h25, he] at hb
    simp at hb
  rw [if_neg h25] at hb
  have h2 : ¬ k = 2 := fun e => h25 (.inl e)
  have h5 : ¬ k = 5 := fun e => h25 (.inr e)
  rw [if_neg h2]
  by_cases h4 : k = 4
  · rw [if_pos h4]
    exact ⟨[atomT wStar, atomT wSet], rfl⟩
  rw [if_neg h4, if_neg h5]
  by_cases h6 : k = 6
  · have h34 : ¬ (k = 3 ∨ k = 4) := by rw [h6]; decide
    rw [if_neg h34, he] at hb
    simp at hb
  rw [if_neg h6]
  exact ⟨[], rfl⟩
theorem nodes_pos (v : Tree) : 1 ≤ v.nodes := by rw [Tree.nodes_eq]; omega
theorem val_nodes : ∀ t : Tg, t.right isV = true → t.nodes ≤ t.val.nodes := by
  refine Tg.ind fun t ih h => ?_
  by_cases hk : t.kids = []
  · rw [Tg.nodes_eq, hk]
    exact nodes_pos _
  · obtain ⟨l, hv⟩ := val_kids h hk
    rw [Tg.right_eq, Bool.and_eq_true, List.all_eq_true] at h
    rw [hv, Tg.nodes_eq, Tree.nodes_eq]
    have : ∀ m : List Tg, (∀ x ∈ m, x.nodes ≤ x.val.nodes) → (m.map Tg.nodes).sum ≤ ((m.map Tg.val).map Tree.nodes).sum := by
      intro m
      induction m with
      | nil => simp
      | cons x m ih2 =>
        intro hm
        have h1 := hm x (by simp)
        have h2 := ih2 fun y hy => hm y (by simp [hy])
        simp only [List.map_cons, List.sum_cons]
        omega
    have h3 := this t.kids fun x hx => ih x hx (h.2 x hx)
    simp only [listT, Tree.kids, List.map_append, List.sum_append]
    omega
theorem D_of_right : ∀ (t : Tg) (n : Nat), t.right isV = true → n ≤ 17 → t.val.deep + n ≤ 17 → t.rightD isV n = true := by
  refine Tg.ind fun t ih n h hn hd => ?_
  have h' := h
  rw [Tg.right_eq, Bool.and_eq_true, List.all_eq_true] at h
  rw [Tg.rightD_eq, h.1, decide_eq_true hn, Bool.true_and, Bool.true_and, List.all_eq_true]
  intro x hx
  obtain ⟨l, hv⟩ := val_kids h' (fun e => by rw [e] at hx; cases hx)
  have h1 : x.val.deep + 1 ≤ t.val.deep := by
    rw [hv, Tree.deep_eq (listT _), show (listT (l ++ t.kids.map Tg.val)).list = true from rfl, show (listT (l ++ t.kids.map Tg.val)).kids = l ++ t.kids.map Tg.val from rfl, if_pos rfl]
    have := (most_le (l := (l ++ t.kids.map Tg.val).map Tree.deep)).1 (Nat.le_refl _) x.val.deep (List.mem_map.2 ⟨x.val, List.mem_append.2 (.inr (List.mem_map.2 ⟨x, hx, rfl⟩)), rfl⟩)
    omega
  exact ih x hx (n + 1) (h.2 x hx) (by omega) (by omega)
end
end Go.Proofs.YtbeghpkkpnbkgaaGreatDoor
/- Tags as data; what is told of them: the document's count, Same, Great. -/
namespace Go.Proofs.YtbeghpkkpnbkgaaGreatDoor
open Go.RowKit
def tagC (t : Tg) : List D := [bD t.kind, bytesD t.data, .sl t.kids.length (t.kids.attach.map fun x => tagC x.1).flatten, bD t.ord, .v (.bool t.lo.is), .v (.bool t.lo.opn), bytesD t.lo.txt, .v (.bool t.hi.is), .v (.bool t.hi.opn), bytesD t.hi.txt]
termination_by SizeOf.sizeOf t
decreasing_by exact Tg.kid_lt x.2
theorem tagC_eq (t : Tg) : tagC t = [bD t.kind, bytesD t.data, .sl t.kids.length (t.kids.flatMap tagC), bD t.ord, .v (.bool t.lo.is), .v (.bool t.lo.opn), bytesD t.lo.txt, .v (.bool t.hi.is), .v (.bool t.hi.opn), bytesD t.hi.txt] := by
  rw [tagC]
  simp [List.flatMap]
@[go_sem] def tagK (t : Tg) : List C := [.d (bD t.kind), .d (bytesD t.data), .d (.sl t.kids.length (t.kids.flatMap tagC)), .d (bD t.ord), .d (.v (.bool t.lo.is)), .d (.v (.bool t.lo.opn)), .d (bytesD t.lo.txt), .d (.v (.bool t.hi.is)), .d (.v (.bool t.hi.opn)), .d (bytesD t.hi.txt)]
@[go_sem] theorem tagC_len (t : Tg) : (tagC t).length = 10 := by rw [tagC_eq]; rfl
@[go_sem] theorem tagC_take (t : Tg) : ((tagC t).map C.d).take 10 = (tagC t).map C.d := List.take_of_length_le (by rw [List.length_map, tagC_len]; exact Nat.le_refl _)
@[go_sem] theorem tagC_flen (l : List Tg) : (l.flatMap tagC).length = l.length * 10 := flat_len tagC_len l
/-- A range, as data: seven cells. -/
@[go_sem] def rgD (o : UInt8) (lo hi : Bd) : List D := [bD o, .v (.bool lo.is), .v (.bool lo.opn), bytesD lo.txt, .v (.bool hi.is), .v (.bool hi.opn), bytesD hi.txt]
def bdSame (x y : Bd) : Bool := x.is == y.is && x.opn == y.opn && x.txt == y.txt
def rgSame (o : UInt8) (lo hi : Bd) (o' : UInt8) (lo' hi' : Bd) : Bool := o == o' && bdSame lo lo' && bdSame hi hi'
theorem bdSame_iff {x y : Bd} : bdSame x y = true ↔ x = y := by
  cases x; cases y
  simp [bdSame, and_assoc]
def rgGreat (lo hi : Bd) : Bool := decide (200 < (lo.txt.length : Int)) || decide (200 < (hi.txt.length : Int))
theorem Tg.nodes_wt : ∀ t : Tg, t.nodes ≤ t.wt := Tg.ind fun t ih => by
  rw [Tg.nodes_eq, Tg.wt_eq]
  have : ∀ l : List Tg, (∀ x ∈ l, x.nodes ≤ x.wt) → (l.map Tg.nodes).sum ≤ (l.map Tg.wt).sum := by
    intro l
    induction l with
    | nil => simp
    | cons x l ih =>
      intro h
      have h0 := h x (by simp)
      have := ih fun y hy => h y (by simp [hy])
      simp only [List.map_cons, List.sum_cons]
      omega
  have := this t.kids ih
  omega
section
variable {G : Nat → Option (List D)}
theorem u8_beq (x y : UInt8) : (((x.toNat : Int)) == (y.toNat : Int)) = (x == y) := by
  rw [Bool.eq_iff_iff]
  simp only [beq_iff_eq, ← UInt8.toNat_inj]
  omega
theorem rsame_m (x y : Bd) : Spec Tryz.prog G 57 [.g [.v (.bool x.is), .v (.bool x.opn), bytesD x.txt], .g [.v (.bool y.is), .v (.bool y.opn), bytesD y.txt]] (.one (.c (.v (.bool (bdSame x y))))) := by
  obtain ⟨a, b, c⟩ := x
  obtain ⟨a', b', c'⟩ := y
  unfold bdSame
  dsimp only
  cases h1 : a == a' <;> cases h2 : b == b' <;> cases h3 : c == c'
  all_goals
    refine spec_of Tryz.func57 rfl rfl rfl (by kernel_rfl) rfl fun K => ?_
    (repeat' (first | with_reducible (first | refine zA fun Kn hK => ?_ | refine zB (by kernel_rfl) ?_ | refine Nx.go ?_ | go_step) | fail | with_reducible (first | refine zI ?_ | refine zJ ?_ | refine zK ?_ ?_ | refine zL ?_ ?_ | refine zR (by kernel_rfl) ?_) | simp (maxSteps := 9999999) (disch := omega) only [wq] | (with_reducible refine zM (fun hb => ?_) (fun hb => ?_) <;> (try simp only [hb])) | (with_reducible refine And.intro (by first | omega | (simp; done) | (simp; omega)) ?_) | simp (maxSteps := 9999999) (implicitDefEqProofs := false) only [go_sem, h1, h2, h3] | fail))
    all_goals try rfl
theorem rgsame_m (o : UInt8) (lo hi : Bd) (o' : UInt8) (lo' hi' : Bd) : Spec Tryz.prog G 39 [.g (rgD o lo hi), .g (rgD o' lo' hi')] (.one (.c (.v (.bool (rgSame o lo hi o' lo' hi'))))) := by
  have s1 := rsame_m (G := G) lo lo'
  have s2 := rsame_m (G := G) hi hi'
  have e := u8_beq o o'
  unfold rgSame
  generalize bdSame lo lo' = q1 at *
  generalize bdSame hi hi' = q2 at *
  generalize (o == o') = q0 at *
  unfold rgD bD
  cases q0 <;> cases q1 <;> cases q2
  all_goals
    refine spec_of Tryz.func39 rfl rfl rfl (by kernel_rfl) rfl fun K => ?_
    (repeat' (first | with_reducible (first | refine zA fun Kn hK => ?_ | refine zB (by kernel_rfl) ?_ | refine Nx.go ?_ | go_step) | (refine ⟨_, s1, ?_⟩) | (refine ⟨_, s2, ?_⟩) | with_reducible (first | refine zI ?_ | refine zJ ?_ | refine zK ?_ ?_ | refine zL ?_ ?_ | refine zR (by kernel_rfl) ?_) | simp (maxSteps := 9999999) (disch := omega) only [wq] | (with_reducible refine zM (fun hb => ?_) (fun hb => ?_) <;> (try simp only [hb])) | (with_reducible refine And.intro (by first | omega | (simp; done) | (simp; omega)) ?_) | simp (maxSteps := 9999999) (implicitDefEqProofs := false) only [go_sem, e] | fail))
    all_goals try rfl
theorem rggreat_m (o : UInt8) (lo hi : Bd) : Spec Tryz.prog G 25 [.g (rgD o lo hi)] (.one (.c (.v (.bool (rgGreat lo hi))))) := by
  unfold rgGreat
  unfold rgD bD
  cases d1 : decide (200 < (lo.txt.length : Int)) <;> cases d2 : decide (200 < (hi.txt.length : Int))
  all_goals
    refine spec_of Tryz.func25 rfl rfl rfl (by kernel_rfl) rfl fun K => ?_
    (repeat' (first | with_reducible (first | refine zA fun Kn hK => ?_ | refine zB (by kernel_rfl) ?_ | refine Nx.go ?_ | go_step) | fail | with_reducible (first | refine zI ?_ | refine zJ ?_ | refine zK ?_ ?_ | refine zL ?_ ?_ | refine zR (by kernel_rfl) ?_) | simp (maxSteps := 9999999) (disch := omega) only [wq] | (with_reducible refine zM (fun hb => ?_) (fun hb => ?_) <;> (try simp only [hb])) | (with_reducible refine And.intro (by first | omega | (simp; done) | (simp; omega)) ?_) | simp (maxSteps := 9999999) (implicitDefEqProofs := false) only [go_sem, gt_iff_lt, d1, d2] | fail))
    all_goals try rfl
theorem count_m : ∀ t : Tg, ∀ cs : List D, tagC t = cs → t.wt ≤ 1000000000 → Spec Tryz.prog G 26 [.g cs] (.one (.c (.v (.int .i64 t.nodes)))) := Tg.ind fun t ih cs hcs hw => by
  subst hcs
  refine spec_of Tryz.func26 rfl rfl rfl (by kernel_rfl) rfl fun K => ?_
  rw [tagC_eq]
  (repeat' (first | with_reducible (first | refine zA fun Kn hK => ?_ | refine zB (by kernel_rfl) ?_ | refine Nx.go ?_ | go_step) | fail | with_reducible (first | refine zI ?_ | refine zJ ?_ | refine zK ?_ ?_ | refine zL ?_ ?_ | refine zR (by kernel_rfl) ?_) | simp (maxSteps := 9999999) (disch := omega) only [wq] | (with_reducible refine zM (fun hb => ?_) (fun hb => ?_) <;> (try simp only [hb])) | (with_reducible refine And.intro (by first | omega | (simp; done) | (simp; omega)) ?_) | simp (maxSteps := 9999999) (implicitDefEqProofs := false) only [go_sem, true_and] | fail))
  refine sound_loopR (fun x : {k : Nat // k ≤ t.kids.length} => ⟨[(1, vP 1 0), (3, vI (1 + ((t.kids.take x.1).map Tg.nodes).sum : Nat)), (7, vI t.kids.length), (8, vI x.1)], [(1, some ⟨34, tagK t, true, false⟩)]⟩) (fun x => t.kids.length - x.1) ⟨0, by omega⟩ [] ?_ (fun ⟨k, hk⟩ => ?_)
  · simp (maxSteps := 9999999) (implicitDefEqProofs := false) only [go_sem]
    simp
  by_cases hlt : k < t.kids.length
  · obtain ⟨x, hx⟩ : ∃ x, t.kids[k]? = some x := ⟨_, List.getElem?_eq_getElem hlt⟩
    have hb : decide ((k : Int) < (t.kids.length : Int)) = true := by simpa using hlt
    have h1 := sum_at Tg.nodes hx
    have h2 := sum_upto (l := t.kids) (k := k + 1) Tg.nodes
    have h3 := t.nodes_wt
    have h4 := t.nodes_eq
    have h5 := t.wt_kids
    (repeat' (first | with_reducible (first | refine zA fun Kn hK => ?_ | refine zB (by kernel_rfl) ?_ | refine Nx.go ?_ | go_step) | (refine ⟨_, ih x (List.mem_of_getElem? hx) _ rfl (by have := Tg.wt_kid (List.mem_of_getElem? hx); omega), ?_⟩) | with_reducible (first | refine zI ?_ | refine zJ ?_ | refine zK ?_ ?_ | refine zL ?_ ?_ | refine zR (by kernel_rfl) ?_) | simp (maxSteps := 9999999) (disch := omega) only [wq] | (with_reducible refine zM (fun hb => ?_) (fun hb => ?_) <;> (try simp only [hb])) | (with_reducible refine And.intro (by first | omega | (simp; done) | (simp; omega)) ?_) | simp (maxSteps := 9999999) (implicitDefEqProofs := false) only [go_sem, hb, flat_at tagC_len hx] | fail))
    refine ⟨[], ⟨k + 1, hlt⟩, ?_⟩
    (iterate 2 ((try simp (maxSteps := 9999999) (implicitDefEqProofs := false) only [go_sem, hb]); (try simp (maxSteps := 9999999) (disch := omega) only [wq])))
    (simp only [ijq, true_and, and_true]; first | done | omega | (split <;> omega) | (simp; done) | (simp; omega))
  · have hb : decide ((k : Int) < (t.kids.length : Int)) = false := by simpa using hlt
    obtain rfl : k = t.kids.length := by omega
    (repeat' (first | with_reducible (first | refine zA fun Kn hK => ?_ | refine zB (by kernel_rfl) ?_ | refine Nx.go ?_ | go_step) | fail | with_reducible (first | refine zI ?_ | refine zJ ?_ | refine zK ?_ ?_ | refine zL ?_ ?_ | refine zR (by kernel_rfl) ?_) | simp (maxSteps := 9999999) (disch := omega) only [wq] | (with_reducible refine zM (fun hb => ?_) (fun hb => ?_) <;> (try simp only [hb])) | (with_reducible refine And.intro (by first | omega | (simp; done) | (simp; omega)) ?_) | simp (maxSteps := 9999999) (implicitDefEqProofs := false) only [go_sem, hb, List.take_length] | fail))
    rw [t.nodes_eq]
end
end Go.Proofs.YtbeghpkkpnbkgaaGreatDoor
/- Tags, opened as a row's arguments. -/
namespace Go.Proofs.YtbeghpkkpnbkgaaGreatDoor
open Go.ChangeShapes Go.WideShapes Go.ChangeAt Go.RowKit
theorem opens_tag (fuel : Nat) : OpensN Tryz.prog fuel 34 Rep.tag Tg.wt :=
  opensN_tag Tryz.underlying34 (by kernel_rfl) (by kernel_rfl) Tryz.underlying32 (by kernel_rfl) (by kernel_rfl) Tryz.underlying30 (by kernel_rfl) (by kernel_rfl) Tryz.underlying5 (by kernel_rfl) Tryz.underlying4 Tryz.underlying24 Tryz.underlying5 Tryz.underlying22 (by kernel_rfl) (by kernel_rfl) (by kernel_rfl) (by kernel_rfl) fuel
theorem opens_tags (fuel : Nat) : OpensN Tryz.prog fuel 22 Rep.tag.slice (fun l => (l.map Tg.wt).sum + 1) :=
  opensN_slice (P := Tryz.prog) fuel Tryz.underlying22 (by kernel_rfl) fun m _ => opens_tag m
theorem cellsOf_tag : CellsOf Rep.tag tagC := by
  intro w S cs y h
  revert cs
  refine Tg.ind (P := fun y => ∀ {cs : List Value}, Rep.tag.rd w S cs y → CellsR w S (tagC y) cs) (fun t ih cs h => ?_) y
  have h : Tg.rd w S cs t := h
  rw [Tg.rd] at h
  obtain ⟨A1, n1, c1, A2, n2, c2, A3, n3, c3, A4, n4, c4, rfl, h1, h2, h7, h3, h4, h5, h6⟩ := h
  rw [tagC_eq]
  refine cellsR_cons (.v _ rfl) (cellsR_cons (rd_bytes h1) (cellsR_cons ?_ (cellsR_cons (.v _ rfl) (cellsR_cons (.v _ rfl) (cellsR_cons (.v _ rfl) (cellsR_cons (rd_bytes h2) (cellsR_cons (.v _ rfl) (cellsR_cons (.v _ rfl) (cellsR_cons (rd_bytes h7) cellsR_nil)))))))))
  exact rd_slice (r := Rep.tag) tagC_len (fun hy hr => ih _ hy hr) ⟨h3, h4, h5, h6⟩
end Go.Proofs.YtbeghpkkpnbkgaaGreatDoor
/- Numbers: digits. -/
namespace Go.Proofs.YtbeghpkkpnbkgaaGreatDoor
open Go.RowKit
def numFrom (n : Nat) (l : List UInt8) : Nat := l.foldl (fun n c => 10 * n + (c.toNat - 48)) n
def allDg (l : List UInt8) : Bool := l.all isDg
theorem numFrom_take {n : Nat} {l : List UInt8} {k : Nat} {x : UInt8} (h : l[k]? = some x) : numFrom n (l.take (k + 1)) = 10 * numFrom n (l.take k) + (x.toNat - 48) := by
  unfold numFrom
  rw [List.take_add_one, h, List.foldl_append]
  rfl
theorem numFrom_lt : ∀ (l : List UInt8) (n k : Nat), (∀ c ∈ l, isDg c = true) → n < 10 ^ k → numFrom n l < 10 ^ (k + l.length)
  | [], n, k, _, h => h
  | c :: l, n, k, hd, hn => by
    have hc : 48 ≤ c.toNat ∧ c.toNat ≤ 57 := of_decide_eq_true (hd c (by simp))
    have h2 := numFrom_lt l (10 * n + (c.toNat - 48)) (k + 1) (fun x hx => hd x (by simp [hx])) (by rw [Nat.pow_succ]; omega)
    have e : k + 1 + l.length = k + (l.length + 1) := by omega
    rw [e] at h2
    exact h2
section
variable {G : Nat → Option (List D)}
theorem ndig_m (n0 k0 : Nat) (b : List UInt8) (hn0 : n0 < 10 ^ k0) (hk : k0 + b.length ≤ 16) : Spec Tryz.prog G 114 [.c (.v (.int .i64 (n0 : Int))), .c (.sl b.length (b.map bD))] (.many (if allDg b = true then [iD (numFrom n0 b), .c (.v (.bool (decide (0 < b.length))))] else [iD 0, .c (.v (.bool false))])) := by
  have hlen : b.length ≤ 16 := by omega
  unfold iD
  refine spec_of Tryz.func114 rfl rfl rfl (by kernel_rfl) rfl fun K => ?_
  (repeat' (first | with_reducible (first | refine zA fun Kn hK => ?_ | refine zB (by kernel_rfl) ?_ | refine Nx.go ?_ | go_step) | fail | with_reducible (first | refine zI ?_ | refine zJ ?_ | refine zK ?_ ?_ | refine zL ?_ ?_ | refine zR (by kernel_rfl) ?_) | simp (maxSteps := 9999999) (disch := omega) only [wq] | (with_reducible refine zM (fun hb => ?_) (fun hb => ?_) <;> (try simp only [hb])) | (with_reducible refine And.intro (by first | omega | (simp; done) | (simp; omega)) ?_) | simp (maxSteps := 9999999) (implicitDefEqProofs := false) only [go_sem, true_and] | fail))
  refine sound_loopR (fun x : {m : Nat // m ≤ b.length ∧ (∀ c ∈ b.take m, isDg c = true)} => ⟨[(0, vI (numFrom n0 (b.take x.1))), (1, vD (.sl b.length (b.map bD))), (8, vD (.sl b.length (b.map bD))), (9, vI b.length), (10, vI x.1)], []⟩) (fun x => b.length - x.1) ⟨0, by omega, by simp⟩ [] (by (iterate 2 ((try simp (maxSteps := 9999999) (implicitDefEqProofs := false) only [go_sem, true_and]); (try simp (maxSteps := 9999999) (disch := omega) only [wq]))); try simp [numFrom]) (fun ⟨m, hm, hd⟩ => ?_)
  by_cases h : m < b.length
  · have h1 : decide ((m : Int) < (b.length : Int)) = true := decide_eq_true (by omega)
    obtain ⟨x, hx⟩ : ∃ x, b[m]? = some x := ⟨_, List.getElem?_eq_getElem (by omega)⟩
    have hg : (b.map bD)[m]? = some (bD x) := by rw [List.getElem?_map, hx]; rfl
    by_cases c : isDg x = true
    · have hc : 48 ≤ x.toNat ∧ x.toNat ≤ 57 := of_decide_eq_true c
      have f1 : decide ((x.toNat : Int) < 48) = false := decide_eq_false (by omega)
      have f2 : decide ((x.toNat : Int) > 57) = false := decide_eq_false (by omega)
      have hd2 : ∀ y ∈ b.take (m + 1), isDg y = true := by
        intro y hy
        rw [List.take_add_one, hx, List.mem_append] at hy
        rcases hy with hy | hy
        · exact hd y hy
        · simp at hy
          rw [hy]
          exact c
      have hv := numFrom_take (n := n0) hx
      have hlt := numFrom_lt (b.take (m + 1)) n0 k0 hd2 hn0
      have hp : 10 ^ (k0 + (b.take (m + 1)).length) ≤ 10 ^ 16 := Nat.pow_le_pow_right (by omega) (by rw [List.length_take]; omega)
      have hs : numFrom n0 (b.take (m + 1)) < 10000000000000000 := Nat.lt_of_lt_of_le hlt hp
      (repeat' (first | with_reducible (first | refine zA fun Kn hK => ?_ | refine zB (by kernel_rfl) ?_ | refine Nx.go ?_ | go_step) | fail | with_reducible (first | refine zI ?_ | refine zJ ?_ | refine zK ?_ ?_ | refine zL ?_ ?_ | refine zR (by kernel_rfl) ?_) | simp (maxSteps := 9999999) (disch := omega) only [wq] | (with_reducible refine zM (fun hb => ?_) (fun hb => ?_) <;> (try simp only [hb])) | (with_reducible refine And.intro (by first | omega | (simp; done) | (simp; omega)) ?_) | simp (maxSteps := 9999999) (implicitDefEqProofs := false) only [go_sem, h1, hg, bD, f1, f2, List.length_map] | fail))
      refine ⟨[], ⟨m + 1, by omega, hd2⟩, ?_⟩
      (iterate 2 ((try simp (maxSteps := 9999999) (implicitDefEqProofs := false) only [go_sem, true_and, hv]); (try simp (maxSteps := 9999999) (disch := omega) only [wq])))
      try (simp only [ijq, true_and, and_true]; first | done | omega | (split <;> omega) | (simp; done) | (simp; omega))
      try omega
    · have e : allDg b = false := by
        rw [allDg, List.all_eq_false]
        exact ⟨x, List.mem_of_getElem? hx, c⟩
      have hxl := UInt8.toNat_lt x
      have hc : ¬ (48 ≤ x.toNat ∧ x.toNat ≤ 57) := fun h => c (decide_eq_true h)
      have hi : ∀ (u v : List DV), (if allDg b = true then u else v) = v := fun u v => if_neg (by rw [e]; decide)
      (repeat' (first | with_reducible (first | refine zA fun Kn hK => ?_ | refine zB (by kernel_rfl) ?_ | refine Nx.go ?_ | go_step) | fail | with_reducible (first | refine zI ?_ | refine zJ ?_ | refine zK ?_ ?_ | refine zL ?_ ?_ | refine zR (by kernel_rfl) ?_) | simp (maxSteps := 9999999) (disch := omega) only [wq] | (with_reducible refine zM (fun hb => ?_) (fun hb => ?_) <;> (try simp only [hb])) | (with_reducible refine And.intro (by first | omega | (simp; done) | (simp; omega)) ?_) | simp (maxSteps := 9999999) (implicitDefEqProofs := false) only [go_sem, h1, hg, bD, List.length_map] | fail))
      all_goals first
        | (rw [hi]; rfl)
        | (exfalso; simp only [decide_eq_true_eq, decide_eq_false_iff_not] at *; omega)
  · have h1 : decide ((m : Int) < (b.length : Int)) = false := decide_eq_false (by omega)
    have e : b.take m = b := List.take_of_length_le (by omega)
    rw [e] at hd
    have ha : allDg b = true := List.all_eq_true.2 hd
    have hi : ∀ (u v : List DV), (if allDg b = true then u else v) = u := fun u v => if_pos ha
    have h2 : decide ((b.length : Int) > 0) = decide (0 < b.length) := by rw [decide_eq_decide]; omega
    (repeat' (first | with_reducible (first | refine zA fun Kn hK => ?_ | refine zB (by kernel_rfl) ?_ | refine Nx.go ?_ | go_step) | fail | with_reducible (first | refine zI ?_ | refine zJ ?_ | refine zK ?_ ?_ | refine zL ?_ ?_ | refine zR (by kernel_rfl) ?_) | simp (maxSteps := 9999999) (disch := omega) only [wq] | (with_reducible refine zM (fun hb => ?_) (fun hb => ?_) <;> (try simp only [hb])) | (with_reducible refine And.intro (by first | omega | (simp; done) | (simp; omega)) ?_) | simp (maxSteps := 9999999) (implicitDefEqProofs := false) only [go_sem, h1, e, h2] | fail))
    all_goals (rw [hi])
end
end Go.Proofs.YtbeghpkkpnbkgaaGreatDoor
/- Numbers, plainly: which texts are one; letter by letter. -/
namespace Go.Proofs.YtbeghpkkpnbkgaaGreatDoor
/-- Cut at the first point. -/
def cutD : List UInt8 → List UInt8 × List UInt8 × Bool
  | [] => ([], [], false)
  | c :: l => if c = 46 then ([], l, true) else (c :: (cutD l).1, (cutD l).2.1, (cutD l).2.2)
def numBody (b : List UInt8) : Bool :=
  decide ((cutD b).1.length + (cutD b).2.1.length ≤ 15) && (allDg (cutD b).1 && decide ((cutD b).1 ≠ [])) && (!(cutD b).2.2 || (allDg (cutD b).2.1 && decide ((cutD b).2.1 ≠ [])))
def unsig (b : List UInt8) : List UInt8 := match b with
  | [] => []
  | c :: l => if c = 45 then l else c :: l
def wInf : List UInt8 := [105, 110, 102]
def wNan : List UInt8 := [110, 97, 110]
def numB (b : List UInt8) : Bool := decide (b = wInf) || decide (b = 45 :: wInf) || numBody (unsig b)
/-- The document's way: letter by letter. -/
def runN : List UInt8 → Bool → Bool → Nat → Bool
  | [], _, _, n => decide (n ≠ 0)
  | c :: l, fst, stop, n => if c = 46 then (if stop || fst || decide (l = []) then false else runN l false true n) else if isDg c && decide (n ≠ 15) then runN l false stop (n + 1) else false
theorem cut_len : ∀ l : List UInt8, (cutD l).1.length + (cutD l).2.1.length ≤ l.length
  | [] => by simp [cutD]
  | c :: l => by
    have := cut_len l
    rw [cutD]
    split
    · simp
    · simp only [List.length_cons]; omega
theorem isDg_46 : isDg 46 = false := by decide
theorem runN_stop : ∀ (l : List UInt8) (f : Bool) (n : Nat), n ≤ 15 → runN l f true n = (allDg l && decide (n + l.length ≤ 15) && decide (n + l.length ≠ 0))
  | [], f, n, h => by simp [runN, allDg, h]
  | c :: l, f, n, h => by
    rw [runN]
    by_cases hc : c = 46
    · subst hc
      simp [allDg, isDg_46]
    · rw [if_neg hc]
      by_cases hd : isDg c = true
      · by_cases hn : n = 15
        · subst hn
          have : ¬ (15 + (l.length + 1) ≤ 15) := by omega
          simp [this]
        · have ih := runN_stop l false (n + 1) (by omega)
          have e1 : n + 1 + l.length = n + (l.length + 1) := by omega
          rw [e1] at ih
          simp only [hd, ne_eq, hn, not_false_eq_true, decide_true, Bool.and_true, if_true, ih, allDg, List.all_cons, Bool.true_and, List.length_cons]
      · simp only [Bool.not_eq_true] at hd
        simp [hd, allDg]
theorem runN_cut : ∀ (l : List UInt8) (f : Bool) (n : Nat), n ≤ 15 → (f = true → n = 0) → (f = false → n ≠ 0) → runN l f false n =
    (decide (n + (cutD l).1.length + (cutD l).2.1.length ≤ 15) && (allDg (cutD l).1 && decide (n + (cutD l).1.length ≠ 0)) && (!(cutD l).2.2 || (allDg (cutD l).2.1 && decide ((cutD l).2.1 ≠ []))))
  | [], f, n, h, h1, h2 => by
    by_cases e : n = 0 <;> simp [runN, cutD, allDg, h, e]
  | c :: l, f, n, h, h1, h2 => by
    rw [runN, cutD]
    by_cases hc : c = 46
    · subst hc
      simp only [if_true, List.length_nil, Nat.add_zero, Bool.false_or, Bool.not_true]
      cases f with
      | true => 
        have := h1 rfl
        subst this
        simp
      | false =>
        have h3 := h2 rfl
        by_cases hl : l = []
        · subst hl
          simp
        · have hll : l.length ≠ 0 := by intro e; exact hl (List.eq_nil_of_length_eq_zero e)
          simp only [Bool.false_or, hl, decide_false, Bool.false_eq_true, if_false, runN_stop l false n h, allDg, List.all_nil, ne_eq, h3, not_false_eq_true, decide_true, Bool.and_true]
          rw [Bool.and_comm, ← Bool.and_assoc]
          have : decide (n + l.length ≠ 0) = true := decide_eq_true (by omega)
          rw [this]
          simp [Bool.and_comm]
    · rw [if_neg hc, if_neg hc]
      by_cases hd : isDg c = true
      · by_cases hn : n = 15
        · subst hn
          have : ¬ (15 + ((cutD l).1.length + 1) + (cutD l).2.1.length ≤ 15) := by omega
          simp [this]
        · have ih := runN_cut l false (n + 1) (by omega) (by simp) (by simp)
          have e1 : n + 1 + (cutD l).1.length = n + ((cutD l).1.length + 1) := by omega
          rw [e1] at ih
          simp only [hd, ne_eq, hn, not_false_eq_true, decide_true, Bool.and_true, if_true, ih, allDg, List.all_cons, Bool.true_and, List.length_cons]
      · simp only [Bool.not_eq_true] at hd
        simp [hd, allDg]
theorem runN_body (b : List UInt8) : runN b true false 0 = numBody b := by
  rw [runN_cut b true 0 (by omega) (by simp) (by simp), numBody]
  simp only [Nat.zero_add]
  have : decide ((cutD b).1.length ≠ 0) = decide ((cutD b).1 ≠ []) := by
    rw [decide_eq_decide]
    simp
  rw [this]
end Go.Proofs.YtbeghpkkpnbkgaaGreatDoor
/- Bytes looked for, cut; a sign cut off. -/
namespace Go.Proofs.YtbeghpkkpnbkgaaGreatDoor
open Go.RowKit
/-- The place of the first letter that is c; how many letters there are. -/
def dotAt (c : UInt8) : List UInt8 → Nat
  | [] => 0
  | x :: l => if x = c then 0 else dotAt c l + 1
def dotI (c : UInt8) (l : List UInt8) : Int := if dotAt c l < l.length then dotAt c l else -1
theorem find_dot (c : UInt8) (l : List UInt8) : ((List.range l.length).find? fun i => l.toArray[i]! == c) = if dotAt c l < l.length then some (dotAt c l) else none := by
  induction l with
  | nil => rfl
  | cons x l ih =>
    rw [List.length_cons, List.range_succ_eq_map, List.find?_cons]
    by_cases h : x = c
    · subst h
      simp [dotAt]
    · have e : ((x :: l).toArray[0]! == c) = false := by simp [h]
      rw [e]
      simp only
      rw [List.find?_map]
      have e2 : ((fun i => (x :: l).toArray[i]! == c) ∘ Nat.succ) = fun i => l.toArray[i]! == c := by
        funext i
        simp
      rw [e2, ih, dotAt, if_neg h]
      split
      · rename_i hl
        rw [if_pos (by omega)]
        rfl
      · rename_i hl
        rw [if_neg (by omega)]
        rfl
theorem ba_get (a : Array UInt8) (i : Nat) : (⟨a⟩ : ByteArray)[i]! = a[i]! := by
  by_cases h : i < a.size
  · rw [getElem!_pos (⟨a⟩ : ByteArray) i h, getElem!_pos a i h]
    rfl
  · rw [getElem!_neg (⟨a⟩ : ByteArray) i h, getElem!_neg a i h]
theorem indexB_m {G : Nat → Option (List D)} (b : List UInt8) (c : UInt8) : Spec Tryz.prog G 144 [.c (.sl b.length (b.map bD)), .c (bD c)] (.one (.c (.v (.int .i64 (dotI c b))))) := by
  intro w S vs hS hT hA
  obtain ⟨hl, hc⟩ := hA
  match vs, hl with
  | [u, v], _ =>
    obtain ⟨A, k, rfl, hs⟩ := bytes_sl (hc 0 _ _ rfl rfl) rfl
    obtain rfl : v = .int .u8 (c.toNat : Int) := by
      have h : RD w S (bD c) v := hc 1 _ _ rfl rfl
      cases h
      rfl
    have hx : (callFunc 156 #[.slice A b.length k, .int .u8 (c.toNat : Int)]).run Tryz.prog w = .ok (.value (.int .i64 (dotI c b))) w := by
      rw [run_callFunc_extern Tryz.func156 (by kernel_rfl) (by kernel_rfl) (by kernel_rfl) (e := Extern.BytealgIndexByte.indexByte) (by kernel_rfl)]
      have h0 : (Extern.BytealgIndexByte.indexByte #[.slice A b.length k, .int .u8 (c.toNat : Int)]).run Tryz.prog w = .ok (.int .i64 (dotI c b)) w := by
        show Sem.run _ (do
          let b' ← Extern.Bytes.bytesOf (.slice A b.length k)
          let c' ← Extern.Bytes.asByte (.int .u8 (c.toNat : Int))
          match (List.range b'.size).find? fun i => b'[i]! == c' with
          | some i => pure (goInt i)
          | none => pure (goInt (-1))) w = _
        simp only [Sem.run_bind, run_bytes hs, Result.andThen_ok]
        have hb : (Extern.Bytes.asByte (.int .u8 (c.toNat : Int))).run Tryz.prog w = .ok c w := by
          simp [Extern.Bytes.asByte]
        rw [hb]
        simp only [Result.andThen_ok]
        have hf : ((List.range (ByteArray.size ⟨b.toArray⟩)).find? fun i => (⟨b.toArray⟩ : ByteArray)[i]! == c) = if dotAt c b < b.length then some (dotAt c b) else none := by
          simp only [ba_get]
          exact find_dot c b
        rw [hf, dotI]
        by_cases hd : dotAt c b < b.length
        · rw [if_pos hd, if_pos hd]
          rfl
        · rw [if_neg hd, if_neg hd]
          rfl
      rw [h0]
      rfl
    clear hc hT hS hs
    generalize b.length = n at *
    generalize dotI c b = d at *
    generalize (c.toNat : Int) = z at *
    go_enter Tryz.func144, Tryz.ntmps144
    go_wp2
    go_ret
    exact ⟨Ev.refl _ _, _, rfl, RD.v _ rfl⟩
section
variable {G : Nat → Option (List D)}
theorem index1_m (b : List UInt8) (c : UInt8) : Spec Tryz.prog G 131 [.c (.sl b.length (b.map bD)), .c (.sl 1 [bD c])] (.one (.c (.v (.int .i64 (dotI c b))))) := by
  have h := indexB_m (G := G) b c
  have e0 : (((1 : Nat) : Int) == 0) = false := rfl
  have e1 : (((1 : Nat) : Int) == 1) = true := rfl
  generalize dotI c b = d at *
  generalize b.map bD = L at *
  generalize b.length = n at *
  unfold bD at *
  refine spec_of Tryz.func131 rfl rfl rfl (by kernel_rfl) rfl fun K => ?_
  (repeat' (first | with_reducible (first | refine zA fun Kn hK => ?_ | refine zB (by kernel_rfl) ?_ | refine Nx.go ?_ | go_step) | (refine ⟨_, h, ?_⟩) | with_reducible (first | refine zI ?_ | refine zJ ?_ | refine zK ?_ ?_ | refine zL ?_ ?_ | refine zR (by kernel_rfl) ?_) | simp (maxSteps := 9999999) (disch := omega) only [wq] | (with_reducible refine zM (fun hb => ?_) (fun hb => ?_) <;> (try simp only [hb])) | (with_reducible refine And.intro (by first | omega | (simp; done) | (simp; omega)) ?_) | simp (maxSteps := 9999999) (implicitDefEqProofs := false) only [go_sem, e0, e1] | fail))
theorem cut_dot : ∀ b : List UInt8, cutD b = (b.take (dotAt 46 b), b.drop (dotAt 46 b + 1), decide (dotAt 46 b < b.length))
  | [] => rfl
  | x :: l => by
    rw [cutD, dotAt]
    split
    · simp
    · rw [cut_dot l]
      simp
theorem cut_m (b : List UInt8) (hb : b.length ≤ 1000000000) : Spec Tryz.prog G 113 [.c (.sl b.length (b.map bD)), .c (.sl 1 [bD 46])] (.many [.c (.sl (cutD b).1.length ((cutD b).1.map bD)), .c (.sl (cutD b).2.1.length ((cutD b).2.1.map bD)), .c (.v (.bool (cutD b).2.2))]) := by
  have h := index1_m (G := G) b 46
  rw [cut_dot]
  dsimp only
  rw [dotI] at h
  by_cases hd : dotAt 46 b < b.length
  · rw [if_pos hd] at h
    rw [decide_eq_true hd]
    generalize dotAt 46 b = k at *
    have e1 : (b.take k).length = k := by rw [List.length_take]; omega
    have e2 : (b.drop (k + 1)).length = b.length - (k + 1) := List.length_drop
    have e3 : (b.take k).map bD = (b.map bD).take k := List.map_take
    have e4 : (b.drop (k + 1)).map bD = (b.map bD).drop (k + 1) := List.map_drop
    have e5 : ((b.map bD).drop (k + 1)).take (b.length - (k + 1)) = (b.map bD).drop (k + 1) := List.take_of_length_le (by rw [List.length_drop, List.length_map]; omega)
    have e6 : ((k : Int) + ((1 : Nat) : Int)).toNat = k + 1 := by omega
    have e7 : ((b.map bD).take k).length = k := by rw [List.length_take, List.length_map]; omega
    have g : decide ((k : Int) ≥ 0) = true := decide_eq_true (by omega)
    rw [e1, e2, e3, e4]
    refine spec_of Tryz.func113 rfl rfl rfl (by kernel_rfl) rfl fun K => ?_
    (repeat' (first | with_reducible (first | refine zA fun Kn hK => ?_ | refine zB (by kernel_rfl) ?_ | refine Nx.go ?_ | go_step) | (refine ⟨_, h, ?_⟩) | with_reducible (first | refine zI ?_ | refine zJ ?_ | refine zK ?_ ?_ | refine zL ?_ ?_ | refine zR (by kernel_rfl) ?_) | simp (maxSteps := 9999999) (disch := omega) only [wq] | (with_reducible refine zM (fun hb => ?_) (fun hb => ?_) <;> (try simp only [hb])) | (with_reducible refine And.intro (by first | omega | (simp; done) | (simp; omega)) ?_) | simp (maxSteps := 9999999) (implicitDefEqProofs := false) only [go_sem, g, e5, e6, List.length_map] | fail))
    all_goals try rfl
  · rw [if_neg hd] at h
    rw [decide_eq_false hd]
    have k0 : b.take (dotAt 46 b) = b := List.take_of_length_le (by omega)
    have k1 : b.drop (dotAt 46 b + 1) = [] := List.drop_of_length_le (by omega)
    have g : decide ((-1 : Int) ≥ 0) = false := rfl
    rw [k0, k1]
    refine spec_of Tryz.func113 rfl rfl rfl (by kernel_rfl) rfl fun K => ?_
    (repeat' (first | with_reducible (first | refine zA fun Kn hK => ?_ | refine zB (by kernel_rfl) ?_ | refine Nx.go ?_ | go_step) | (refine ⟨_, h, ?_⟩) | with_reducible (first | refine zI ?_ | refine zJ ?_ | refine zK ?_ ?_ | refine zL ?_ ?_ | refine zR (by kernel_rfl) ?_) | simp (maxSteps := 9999999) (disch := omega) only [wq] | (with_reducible refine zM (fun hb => ?_) (fun hb => ?_) <;> (try simp only [hb])) | (with_reducible refine And.intro (by first | omega | (simp; done) | (simp; omega)) ?_) | simp (maxSteps := 9999999) (implicitDefEqProofs := false) only [go_sem, g, List.length_map, List.map_nil, List.length_nil] | fail))
    all_goals try rfl
theorem pre1_m (b : List UInt8) (hb : b.length ≤ 1000000000) : Spec Tryz.prog G 112 [.c (.sl b.length (b.map bD)), .c (.sl 1 [bD 45])] (.many [.c (.sl (unsig b).length ((unsig b).map bD)), .c (.v (.bool (decide (b.head? = some 45))))]) := by
  cases b with
  | nil =>
    have h : Spec Tryz.prog G 130 [.c (.sl 0 []), .c (.sl 1 [bD 45])] (.one (.c (.v (.bool false)))) := by
      have g : decide (((0 : Nat) : Int) ≥ ((1 : Nat) : Int)) = false := rfl
      unfold bD
      refine spec_of Tryz.func130 rfl rfl rfl (by kernel_rfl) rfl fun K => ?_
      (repeat' (first | with_reducible (first | refine zA fun Kn hK => ?_ | refine zB (by kernel_rfl) ?_ | refine Nx.go ?_ | go_step) | fail | with_reducible (first | refine zI ?_ | refine zJ ?_ | refine zK ?_ ?_ | refine zL ?_ ?_ | refine zR (by kernel_rfl) ?_) | simp (maxSteps := 9999999) (disch := omega) only [wq] | (with_reducible refine zM (fun hb => ?_) (fun hb => ?_) <;> (try simp only [hb])) | (with_reducible refine And.intro (by first | omega | (simp; done) | (simp; omega)) ?_) | simp (maxSteps := 9999999) (implicitDefEqProofs := false) only [go_sem, g] | fail))
    have e : decide ((([] : List UInt8)).head? = some 45) = false := rfl
    rw [e]
    unfold bD at *
    refine spec_of Tryz.func112 rfl rfl rfl (by kernel_rfl) rfl fun K => ?_
    (repeat' (first | with_reducible (first | refine zA fun Kn hK => ?_ | refine zB (by kernel_rfl) ?_ | refine Nx.go ?_ | go_step) | (refine ⟨_, h, ?_⟩) | with_reducible (first | refine zI ?_ | refine zJ ?_ | refine zK ?_ ?_ | refine zL ?_ ?_ | refine zR (by kernel_rfl) ?_) | simp (maxSteps := 9999999) (disch := omega) only [wq] | (with_reducible refine zM (fun hb => ?_) (fun hb => ?_) <;> (try simp only [hb])) | (with_reducible refine And.intro (by first | omega | (simp; done) | (simp; omega)) ?_) | simp (maxSteps := 9999999) (implicitDefEqProofs := false) only [go_sem, List.map_nil, List.length_nil] | fail))
    all_goals try rfl
  | cons x l =>
    have he := equal_m (G := G) [x] [45]
    have hxe : (([x] : List UInt8) == [45]) = decide (x = 45) := by
      rw [Bool.eq_iff_iff]
      simp
    rw [hxe] at he
    have h : Spec Tryz.prog G 130 [.c (.sl (x :: l).length ((x :: l).map bD)), .c (.sl 1 [bD 45])] (.one (.c (.v (.bool (decide (x = 45)))))) := by
      have g : decide ((((x :: l).length : Nat) : Int) ≥ ((1 : Nat) : Int)) = true := decide_eq_true (by simp only [List.length_cons]; omega)
      have e1 : ((x :: l).map bD).take 1 = [bD x] := rfl
      have hn1 : 1 ≤ (x :: l).length := by simp
      generalize (x :: l).length = n at *
      generalize (x :: l).map bD = L at *
      generalize decide (x = 45) = q at *
      unfold bytesD bD at *
      refine spec_of Tryz.func130 rfl rfl rfl (by kernel_rfl) rfl fun K => ?_
      (repeat' (first | with_reducible (first | refine zA fun Kn hK => ?_ | refine zB (by kernel_rfl) ?_ | refine Nx.go ?_ | go_step) | (refine ⟨_, he, ?_⟩) | with_reducible (first | refine zI ?_ | refine zJ ?_ | refine zK ?_ ?_ | refine zL ?_ ?_ | refine zR (by kernel_rfl) ?_) | simp (maxSteps := 9999999) (disch := omega) only [wq] | (with_reducible refine zM (fun hb => ?_) (fun hb => ?_) <;> (try simp only [hb])) | (with_reducible refine And.intro (by first | omega | (simp; done) | (simp; omega)) ?_) | simp (maxSteps := 9999999) (implicitDefEqProofs := false) only [go_sem, g, e1] | fail))
    have e : decide ((x :: l).head? = some 45) = decide (x = 45) := by simp
    rw [e]
    by_cases hx : x = 45
    · subst hx
      have hu : unsig (45 :: l) = l := by simp [unsig]
      rw [hu]
      simp only [decide_true] at *
      have e2 : (((45 : UInt8) :: l).map bD).drop 1 = l.map bD := rfl
      have e3 : (l.map bD).take l.length = l.map bD := List.take_of_length_le (by simp)
      have e4 : ((45 : UInt8) :: l).length - 1 = l.length := rfl
      generalize hL : (((45 : UInt8) :: l).map bD) = L at *
      have hn : ((45 : UInt8) :: l).length = l.length + 1 := rfl
      rw [hn] at *
      unfold bD at h
      refine spec_of Tryz.func112 rfl rfl rfl (by kernel_rfl) rfl fun K => ?_
      (repeat' (first | with_reducible (first | refine zA fun Kn hK => ?_ | refine zB (by kernel_rfl) ?_ | refine Nx.go ?_ | go_step) | (refine ⟨_, h, ?_⟩) | with_reducible (first | refine zI ?_ | refine zJ ?_ | refine zK ?_ ?_ | refine zL ?_ ?_ | refine zR (by kernel_rfl) ?_) | simp (maxSteps := 9999999) (disch := omega) only [wq] | (with_reducible refine zM (fun hb => ?_) (fun hb => ?_) <;> (try simp only [hb])) | (with_reducible refine And.intro (by first | omega | (simp; done) | (simp; omega)) ?_) | simp (maxSteps := 9999999) (implicitDefEqProofs := false) only [go_sem, e2, e3, e4, Nat.add_sub_cancel, List.length_map, bD] | fail))
      all_goals try rfl
    · have hu : unsig (x :: l) = x :: l := by simp [unsig, hx]
      rw [hu]
      rw [decide_eq_false hx] at *
      generalize (x :: l).length = n at *
      generalize (x :: l).map bD = L at *
      unfold bD at *
      refine spec_of Tryz.func112 rfl rfl rfl (by kernel_rfl) rfl fun K => ?_
      (repeat' (first | with_reducible (first | refine zA fun Kn hK => ?_ | refine zB (by kernel_rfl) ?_ | refine Nx.go ?_ | go_step) | (refine ⟨_, h, ?_⟩) | with_reducible (first | refine zI ?_ | refine zJ ?_ | refine zK ?_ ?_ | refine zL ?_ ?_ | refine zR (by kernel_rfl) ?_) | simp (maxSteps := 9999999) (disch := omega) only [wq] | (with_reducible refine zM (fun hb => ?_) (fun hb => ?_) <;> (try simp only [hb])) | (with_reducible refine And.intro (by first | omega | (simp; done) | (simp; omega)) ?_) | simp (maxSteps := 9999999) (implicitDefEqProofs := false) only [go_sem, List.length_map] | fail))
      all_goals try rfl
end
end Go.Proofs.YtbeghpkkpnbkgaaGreatDoor
/- Floats that are numbers: they stand to themselves as equals; what is reckoned of them. -/
namespace Go.Proofs.YtbeghpkkpnbkgaaGreatDoor
open Ieee
def fOk (w : Nat) : Prop := (double.read w).isNaN = false
theorem write_ok {d : Datum} (h : d.isNaN = false) : fOk (double.write d) := by
  have key : ∀ (neg : Bool) (r : Nat), r ≤ double.infRung → fOk (double.word neg r) := by
    intro neg r hr
    have e1 : double.infRung = 9218868437227405312 := by decide
    have e2 : double.signWeight = 9223372036854775808 := by decide
    have e3 : double.binade = 4503599627370496 := by decide
    have hm : double.word neg r % double.signWeight = r := by
      rw [Format.word, e2]
      rw [e1] at hr
      cases neg <;> simp only [Bool.false_eq_true, ↓reduceIte] <;> omega
    unfold fOk Format.read
    simp only [hm]
    split
    · rfl
    · split
      · rfl
      · rw [if_pos (by omega)]
        rfl
  cases d with
  | number neg mag place =>
    unfold Format.write Format.nearest
    dsimp only
    split
    · exact key _ _ (Nat.zero_le _)
    · exact key _ _ (Nat.min_le_right _ _)
  | infinity neg => exact key _ _ (Nat.le_refl _)
  | nan neg f => cases h
theorem order_self {w : Nat} (h : fOk w) : double.order w w = some .eq := by
  unfold fOk at h
  unfold Format.order
  generalize double.read w = d at *
  cases d with
  | number s m i => simp [Datum.order]
  | infinity s => simp [Datum.order]
  | nan _ _ => cases h
/-- A number divided by one that is none. -/
theorem div_ok {x y : Nat} {s : Bool} {n : Nat} {j : Int} (hx : fOk x) (hy : double.read y = .number s n j) (hn : n ≠ 0) : ∃ r, double.div x y = some r ∧ fOk r := by
  unfold fOk at hx
  unfold Format.div
  rw [hy]
  generalize double.read x = d at *
  cases d with
  | number t m i => exact ⟨_, by simp only [Datum.quotient, if_neg hn]; rfl, write_ok rfl⟩
  | infinity t => exact ⟨_, by simp only [Datum.quotient]; rfl, write_ok rfl⟩
  | nan _ _ => cases hx
theorem int_ok (n : Int) : fOk (floatOfInt .f64 n) := write_ok (d := .number (n < 0) n.natAbs 0) rfl
theorem fOk_mod {v w : Nat} (h : v % 9223372036854775808 = w % 9223372036854775808) (hw : fOk w) : fOk v := by
  have e2 : double.signWeight = 9223372036854775808 := by decide
  unfold fOk Format.read at *
  simp only [e2] at *
  rw [h]
  generalize w % 9223372036854775808 = r at *
  split
  · rfl
  · split
    · rfl
    · split
      · rfl
      · rename_i h1 h2 h3
        rw [if_neg h1, if_neg h2, if_neg h3] at hw
        exact hw
theorem neg_ok {w : Nat} (h : fOk w) : fOk (Op.negFloat .f64 w) := by
  refine fOk_mod ?_ h
  show (w ^^^ 2 ^ 63) % 2 ^ 63 = w % 2 ^ 63
  rw [Nat.xor_mod_two_pow, Nat.mod_self, Nat.xor_zero]
def tenP : List Nat := [4607182418800017408, 4621819117588971520, 4636737291354636288, 4652007308841189376, 4666723172467343360, 4681608360884174848, 4696837146684686336, 4711630319722168320, 4726483295884279808, 4741671816366391296, 4756540486875873280, 4771362005757984768, 4786511204640096256, 4801453603149578240, 4816244402031689728, 4831355200913801216]
theorem tenP_step : ∀ k, k < 15 → double.mul (tenP.getD k 0) 4621819117588971520 = some (tenP.getD (k + 1) 0) := by decide +kernel
theorem tenP_num : ∀ k, k ≤ 15 → ∃ n j, double.read (tenP.getD k 0) = .number false n j ∧ n ≠ 0 := by
  have h : ∀ k, k ≤ 15 → (match double.read (tenP.getD k 0) with | .number false n _ => decide (n ≠ 0) | _ => false) = true := by decide +kernel
  intro k hk
  have := h k hk
  split at this
  · rename_i n j e
    exact ⟨n, j, e, by simpa using this⟩
  · cases this
theorem tenI : ∀ k, k ≤ 15 → floatOfInt .f64 ((10 : Int) ^ k) = tenP.getD k 0 := by decide +kernel
end Go.Proofs.YtbeghpkkpnbkgaaGreatDoor
/- Numbers: the program's way from a text to a float. -/
namespace Go.Proofs.YtbeghpkkpnbkgaaGreatDoor
open Go.RowKit
/-- A float, as data. -/
def fD (n : Nat) : D := .v (.float .f64 n)
theorem run_from (z : Int) (w : World) : (callFunc 129 #[.int .u64 z]).run Tryz.prog w = .ok (.value (.float .f64 z.toNat)) w := by
  rw [run_callFunc_extern Tryz.func129 (by kernel_rfl) (by kernel_rfl) (by kernel_rfl) (e := Extern.MathFloatBits.float64frombits) (by kernel_rfl)]
  rfl
theorem run_bits (n : Nat) (w : World) : (callFunc 132 #[.float .f64 n]).run Tryz.prog w = .ok (.value (.int .u64 n)) w := by
  rw [run_callFunc_extern Tryz.func132 (by kernel_rfl) (by kernel_rfl) (by kernel_rfl) (e := Extern.MathFloatBits.float64bits) (by kernel_rfl)]
  rfl
section
variable {G : Nat → Option (List D)}
theorem nan_m : Spec Tryz.prog G 111 [] (.one (.c (fD 9221120237041090561))) := by
  intro w S vs hS hT hA
  obtain ⟨hl, hc⟩ := hA
  match vs, hl with
  | [], _ =>
    have hx := run_from 9221120237041090561 w
    clear hc hT hS
    go_enter Tryz.func111, Tryz.ntmps111
    go_wp2
    go_ret
    exact ⟨Ev.refl _ _, _, rfl, RD.v _ rfl⟩
theorem inf_m (z : Int) (r : Nat) (hz : z = 1 ∧ r = 9218868437227405312 ∨ z = -1 ∧ r = 18442240474082181120) : Spec Tryz.prog G 110 [.c (.v (.int .i64 z))] (.one (.c (fD r))) := by
  intro w S vs hS hT hA
  obtain ⟨hl, hc⟩ := hA
  match vs, hl with
  | [u], _ =>
    obtain rfl : u = .int .i64 z := by
      have h : RD w S (.v (.int .i64 z)) u := hc 0 _ _ rfl rfl
      cases h
      rfl
    have hx := run_from 9218868437227405312 w
    have hy := run_from 18442240474082181120 w
    clear hc hT hS
    rcases hz with ⟨rfl, rfl⟩ | ⟨rfl, rfl⟩
    all_goals
      go_enter Tryz.func110, Tryz.ntmps110
      go_wp2
      go_ret
      exact ⟨Ev.refl _ _, _, rfl, RD.v _ rfl⟩
/-- The sign put to a float. -/
def sgF (n : Nat) : Nat := n % 9223372036854775808 + 9223372036854775808
theorem sg_ok {n : Nat} (h : fOk n) : fOk (sgF n) := fOk_mod (by unfold sgF; omega) h
theorem sg_bits (n : Nat) (hn : n < 18446744073709551616) : (bits .or .u64 (bits .andNot .u64 n 9223372036854775808) (bits .and .u64 13830554455654793216 9223372036854775808)).toNat = sgF n := by
  have e1 : bits .and .u64 13830554455654793216 9223372036854775808 = ((9223372036854775808 : Nat) : Int) := by decide
  have e2 : bits .andNot .u64 (n : Int) 9223372036854775808 = ((n % 9223372036854775808 : Nat) : Int) := by
    have h := u64_andNot_nat n 9223372036854775808 hn (by decide)
    have h2 : n &&& (2 ^ 63 - 1) = n % 2 ^ 63 := Nat.and_two_pow_sub_one_eq_mod n 63
    rw [show (18446744073709551615 - 9223372036854775808 : Nat) = 2 ^ 63 - 1 by decide, h2] at h
    exact h
  rw [e1, e2, bits_or_u64_nat _ _ (by omega) (by decide)]
  have h3 := Nat.shiftLeft_add_eq_or_of_lt (b := n % 9223372036854775808) (i := 63) (by simpa using Nat.mod_lt n (by decide)) 1
  rw [Nat.shiftLeft_eq] at h3
  rw [Int.toNat_natCast, Nat.or_comm, sgF, Nat.add_comm]
  exact h3.symm
theorem sign_m (n : Nat) (hn : n < 18446744073709551616) : Spec Tryz.prog G 115 [.c (fD n), .c (fD 13830554455654793216)] (.one (.c (fD (sgF n)))) := by
  intro w S vs hS hT hA
  obtain ⟨hl, hc⟩ := hA
  match vs, hl with
  | [u, v], _ =>
    obtain rfl : u = .float .f64 n := by
      have h : RD w S (fD n) u := hc 0 _ _ rfl rfl
      cases h
      rfl
    obtain rfl : v = .float .f64 13830554455654793216 := by
      have h : RD w S (fD 13830554455654793216) v := hc 1 _ _ rfl rfl
      cases h
      rfl
    have hx := fun m => run_bits m w
    have hf := fun z => run_from z w
    clear hc hT hS
    go_enter Tryz.func115, Tryz.ntmps115
    go_wp2
    go_ret
    refine ⟨Ev.refl _ _, _, rfl, ?_⟩
    show DRd w _ _ (.float .f64 (bits .or .u64 (bits .andNot .u64 n 9223372036854775808) (bits .and .u64 13830554455654793216 9223372036854775808)).toNat)
    rw [sg_bits n hn]
    exact RD.v _ rfl
end
end Go.Proofs.YtbeghpkkpnbkgaaGreatDoor
/- Numbers: the program's Get. -/
namespace Go.Proofs.YtbeghpkkpnbkgaaGreatDoor
open Go.RowKit
theorem run_ten {k : Nat} (h : k < 15) (w : World) (t : TypeId) : (binOp .mul t (.float .f64 (tenP.getD k 0)) (.float .f64 4621819117588971520)).run Tryz.prog w = .ok (.float .f64 (tenP.getD (k + 1) 0)) w := run_float_arith w .mul t .f64 _ _ _ (tenP_step k h)
theorem run_i2f (n : Int) (w : World) (s t : TypeId) (hs : (Tryz.prog.underlying s).isSome = true) (ht : Tryz.prog.underlying t = some (.float .f64)) : (convert s t (.int .i64 n)).run Tryz.prog w = .ok (.float .f64 (floatOfInt .f64 n)) w := run_convert_int_float w s t .i64 .f64 n hs ht
theorem run_quo {x k : Nat} {r : Nat} (h : Ieee.double.div x (tenP.getD k 0) = some r) (w : World) (t : TypeId) : (binOp .quo t (.float .f64 x) (.float .f64 (tenP.getD k 0))).run Tryz.prog w = .ok (.float .f64 r) w := run_float_arith w .quo t .f64 _ _ _ h
section
variable {G : Nat → Option (List D)}
/-- The walk, what stands ahead of it done. -/
structure GetH (G : Nat → Option (List D)) (b u w p : List UInt8) (s mn : Bool) : Prop where
  t1 : (b == wInf) = false
  t2 : (b == 45 :: wInf) = false
  t3 : (b == wNan) = false
  h1 : Spec Tryz.prog G 112 [.c (.sl b.length (b.map bD)), .c (.sl 1 [bD 45])] (.many [.c (.sl u.length (u.map bD)), .c (.v (.bool mn))])
  h2 : Spec Tryz.prog G 113 [.c (.sl u.length (u.map bD)), .c (.sl 1 [bD 46])] (.many [.c (.sl w.length (w.map bD)), .c (.sl p.length (p.map bD)), .c (.v (.bool s))])
  l : w.length + p.length ≤ 1000000000
theorem get_long {b u w p : List UInt8} {s mn : Bool} (h : GetH G b u w p s mn) (hl : decide ((w.length : Int) + (p.length : Int) > 15) = true) : Spec Tryz.prog G 96 [.c (.sl b.length (b.map bD))] (.many [.c (fD 0), .c (.v (.bool false))]) := by
  obtain ⟨t1, t2, t3, h1, h2, l⟩ := h
  unfold wInf wNan fD at *
  generalize u.map bD = U at *
  generalize u.length = un at *
  refine spec_of Tryz.func96 rfl rfl rfl (by kernel_rfl) rfl fun K => ?_
  (repeat' (first | with_reducible (first | refine zA fun Kn hK => ?_ | refine zB (by kernel_rfl) ?_ | refine Nx.go ?_ | go_step) | (refine ⟨none, ?_⟩) | (refine ⟨_, h1, ?_⟩) | (refine ⟨_, h2, ?_⟩) | with_reducible (first | refine zI ?_ | refine zJ ?_ | refine zK ?_ ?_ | refine zL ?_ ?_ | refine zR (by kernel_rfl) ?_) | simp (maxSteps := 9999999) (disch := omega) only [wq] | (with_reducible refine zM (fun hb => ?_) (fun hb => ?_) <;> (try simp only [hb])) | (with_reducible refine And.intro (by first | omega | (simp; done) | (simp; omega)) ?_) | simp (maxSteps := 9999999) (implicitDefEqProofs := false) only [go_sem, t1, t2, t3, hl, bD] | fail))
/-- The digits are none. -/
theorem get_bad {b u w p : List UInt8} {s mn q1 q2 : Bool} {n m : Int} (h : GetH G b u w p s mn) (hl : decide ((w.length : Int) + (p.length : Int) > 15) = false)
    (g1 : Spec Tryz.prog G 114 [.c (.v (.int .i64 0)), .c (.sl w.length (w.map bD))] (.many [.c (.v (.int .i64 n)), .c (.v (.bool q1))]))
    (g2 : s = true → q1 = true → Spec Tryz.prog G 114 [.c (.v (.int .i64 n)), .c (.sl p.length (p.map bD))] (.many [.c (.v (.int .i64 m)), .c (.v (.bool q2))])) (hq : (q1 && (!s || q2)) = false) :
    Spec Tryz.prog G 96 [.c (.sl b.length (b.map bD))] (.many [.c (fD 0), .c (.v (.bool false))]) := by
  obtain ⟨t1, t2, t3, h1, h2, l⟩ := h
  unfold wInf wNan fD at *
  generalize u.map bD = U at *
  generalize u.length = un at *
  cases q1 with
  | false =>
    cases s
    all_goals
      refine spec_of Tryz.func96 rfl rfl rfl (by kernel_rfl) rfl fun K => ?_
      (repeat' (first | with_reducible (first | refine zA fun Kn hK => ?_ | refine zB (by kernel_rfl) ?_ | refine Nx.go ?_ | go_step) | (refine ⟨none, ?_⟩) | (refine ⟨_, h1, ?_⟩) | (refine ⟨_, h2, ?_⟩) | (refine ⟨_, g1, ?_⟩) | with_reducible (first | refine zI ?_ | refine zJ ?_ | refine zK ?_ ?_ | refine zL ?_ ?_ | refine zR (by kernel_rfl) ?_) | simp (maxSteps := 9999999) (disch := omega) only [wq] | (with_reducible refine zM (fun hb => ?_) (fun hb => ?_) <;> (try simp only [hb])) | (with_reducible refine And.intro (by first | omega | (simp; done) | (simp; omega)) ?_) | simp (maxSteps := 9999999) (implicitDefEqProofs := false) only [go_sem, t1, t2, t3, hl, bD] | fail))
  | true =>
    cases s with
    | false => simp at hq
    | true =>
      have g2 := g2 rfl rfl
      cases q2 with
      | true => simp at hq
      | false =>
        refine spec_of Tryz.func96 rfl rfl rfl (by kernel_rfl) rfl fun K => ?_
        (repeat' (first | with_reducible (first | refine zA fun Kn hK => ?_ | refine zB (by kernel_rfl) ?_ | refine Nx.go ?_ | go_step) | (refine ⟨none, ?_⟩) | (refine ⟨_, h1, ?_⟩) | (refine ⟨_, h2, ?_⟩) | (refine ⟨_, g1, ?_⟩) | (refine ⟨_, g2, ?_⟩) | with_reducible (first | refine zI ?_ | refine zJ ?_ | refine zK ?_ ?_ | refine zL ?_ ?_ | refine zR (by kernel_rfl) ?_) | simp (maxSteps := 9999999) (disch := omega) only [wq] | (with_reducible refine zM (fun hb => ?_) (fun hb => ?_) <;> (try simp only [hb])) | (with_reducible refine And.intro (by first | omega | (simp; done) | (simp; omega)) ?_) | simp (maxSteps := 9999999) (implicitDefEqProofs := false) only [go_sem, t1, t2, t3, hl, bD] | fail))
/-- The digits are a number's. -/
theorem get_good {b u w p : List UInt8} {s mn : Bool} {n m : Int} {r : Nat} (h : GetH G b u w p s mn) (hl : decide ((w.length : Int) + (p.length : Int) > 15) = false) (hp : p.length ≤ 15)
    (g1 : Spec Tryz.prog G 114 [.c (.v (.int .i64 0)), .c (.sl w.length (w.map bD))] (.many [.c (.v (.int .i64 n)), .c (.v (.bool true))]))
    (g2 : s = true → Spec Tryz.prog G 114 [.c (.v (.int .i64 n)), .c (.sl p.length (p.map bD))] (.many [.c (.v (.int .i64 m)), .c (.v (.bool true))])) (hs : s = false → p = [] ∧ m = n)
    (hr : Ieee.double.div (floatOfInt .f64 m) (tenP.getD p.length 0) = some r) (hw : r < 18446744073709551616) :
    Spec Tryz.prog G 96 [.c (.sl b.length (b.map bD))] (.many [.c (fD (if mn then sgF r else r)), .c (.v (.bool true))]) := by
  obtain ⟨t1, t2, t3, h1, h2, l⟩ := h
  have hi := fun (n : Int) (w : World) (s : TypeId) hs => run_i2f n w s 101 hs Tryz.underlying101
  have hz : tenP.getD 0 0 = 4607182418800017408 := rfl
  have hg := sign_m (G := G) r hw
  unfold wInf wNan fD at *
  generalize u.map bD = U at *
  generalize u.length = un at *
  cases s with
  | false =>
    obtain ⟨rfl, rfl⟩ := hs rfl
    have hl' : decide ((w.length : Int) + ((0 : Nat) : Int) > 15) = false := hl
    have c0 : decide ((0 : Int) < ((0 : Nat) : Int)) = false := rfl
    have hq := fun (W : World) t => run_quo (k := 0) hr W t
    clear hr
    cases mn
    all_goals
      refine spec_of Tryz.func96 rfl rfl rfl (by kernel_rfl) rfl fun K => ?_
      (repeat' (first | with_reducible (first | refine zA fun Kn hK => ?_ | refine zB (by kernel_rfl) ?_ | refine Nx.go ?_ | go_step) | (refine ⟨none, ?_⟩) | (refine ⟨_, h1, ?_⟩) | (refine ⟨_, h2, ?_⟩) | (refine ⟨_, g1, ?_⟩) | (refine ⟨.float .f64 (floatOfInt .f64 m), ⟨rfl, fun w => hi m w _ rfl⟩, ?_⟩) | with_reducible (first | refine zI ?_ | refine zJ ?_ | refine zK ?_ ?_ | refine zL ?_ ?_ | refine zR (by kernel_rfl) ?_) | simp (maxSteps := 9999999) (disch := omega) only [wq] | (with_reducible refine zM (fun hb => ?_) (fun hb => ?_) <;> (try simp only [hb])) | (with_reducible refine And.intro (by first | omega | (simp; done) | (simp; omega)) ?_) | simp (maxSteps := 9999999) (implicitDefEqProofs := false) only [go_sem, t1, t2, t3, hl', bD, List.map_nil, List.length_nil] | fail))
      refine sound_loopN 1 ?_
      (repeat' (first | with_reducible (first | refine zA fun Kn hK => ?_ | refine zB (by kernel_rfl) ?_ | refine Nx.go ?_ | go_step) | (refine ⟨.float .f64 r, ⟨rfl, fun w => hq w _⟩, ?_⟩) | (refine ⟨_, hg, ?_⟩) | with_reducible (first | refine zI ?_ | refine zJ ?_ | refine zK ?_ ?_ | refine zL ?_ ?_ | refine zR (by kernel_rfl) ?_) | simp (maxSteps := 9999999) (disch := omega) only [wq] | (with_reducible refine zM (fun hb => ?_) (fun hb => ?_) <;> (try simp only [hb])) | (with_reducible refine And.intro (by first | omega | (simp; done) | (simp; omega)) ?_) | simp (maxSteps := 9999999) (implicitDefEqProofs := false) only [go_sem, c0] | fail))
      try rfl
  | true =>
    have g2 := g2 rfl
    cases mn
    all_goals
      refine spec_of Tryz.func96 rfl rfl rfl (by kernel_rfl) rfl fun K => ?_
      (repeat' (first | with_reducible (first | refine zA fun Kn hK => ?_ | refine zB (by kernel_rfl) ?_ | refine Nx.go ?_ | go_step) | (refine ⟨none, ?_⟩) | (refine ⟨_, h1, ?_⟩) | (refine ⟨_, h2, ?_⟩) | (refine ⟨_, g1, ?_⟩) | (refine ⟨_, g2, ?_⟩) | (refine ⟨.float .f64 (floatOfInt .f64 m), ⟨rfl, fun w => hi m w _ rfl⟩, ?_⟩) | with_reducible (first | refine zI ?_ | refine zJ ?_ | refine zK ?_ ?_ | refine zL ?_ ?_ | refine zR (by kernel_rfl) ?_) | simp (maxSteps := 9999999) (disch := omega) only [wq] | (with_reducible refine zM (fun hb => ?_) (fun hb => ?_) <;> (try simp only [hb])) | (with_reducible refine And.intro (by first | omega | (simp; done) | (simp; omega)) ?_) | simp (maxSteps := 9999999) (implicitDefEqProofs := false) only [go_sem, t1, t2, t3, hl, bD] | fail))
    · refine sound_loopR (fun x : {k : Nat // k ≤ p.length} => ⟨[(4, vB false), (10, .a (.c (.d (.v (.float .f64 (floatOfInt .f64 m)))))), (11, .a (.c (.d (.v (.float .f64 (tenP.getD x.1 0)))))), (64, vI p.length), (65, vI x.1)], []⟩) (fun x => p.length - x.1) ⟨0, Nat.zero_le _⟩ [] (by (iterate 2 ((try simp (maxSteps := 9999999) (implicitDefEqProofs := false) only [go_sem, hz]); (try simp (maxSteps := 9999999) (disch := omega) only [wq]))); try simp [hz]) (fun ⟨k, hk⟩ => ?_)
      by_cases hlt : k < p.length
      · have hb : decide ((k : Int) < (p.length : Int)) = true := decide_eq_true (by omega)
        (repeat' (first | with_reducible (first | refine zA fun Kn hK => ?_ | refine zB (by kernel_rfl) ?_ | refine Nx.go ?_ | go_step) | (refine ⟨.float .f64 (tenP.getD (k + 1) 0), ⟨rfl, fun w => run_ten (by omega) w _⟩, ?_⟩) | with_reducible (first | refine zI ?_ | refine zJ ?_ | refine zK ?_ ?_ | refine zL ?_ ?_ | refine zR (by kernel_rfl) ?_) | simp (maxSteps := 9999999) (disch := omega) only [wq] | (with_reducible refine zM (fun hb => ?_) (fun hb => ?_) <;> (try simp only [hb])) | (with_reducible refine And.intro (by first | omega | (simp; done) | (simp; omega)) ?_) | simp (maxSteps := 9999999) (implicitDefEqProofs := false) only [go_sem, hb] | fail))
        refine ⟨[], ⟨k + 1, hlt⟩, ?_⟩
        (iterate 2 ((try simp (maxSteps := 9999999) (implicitDefEqProofs := false) only [go_sem, hb]); (try simp (maxSteps := 9999999) (disch := omega) only [wq])))
        try (simp only [ijq, true_and, and_true]; first | done | omega | (split <;> omega) | (simp; done) | (simp; omega))
      · have hb : decide ((k : Int) < (p.length : Int)) = false := decide_eq_false (by omega)
        obtain rfl : k = p.length := by omega
        (repeat' (first | with_reducible (first | refine zA fun Kn hK => ?_ | refine zB (by kernel_rfl) ?_ | refine Nx.go ?_ | go_step) | (refine ⟨.float .f64 r, ⟨rfl, fun w => run_quo hr w _⟩, ?_⟩) | (refine ⟨_, hg, ?_⟩) | with_reducible (first | refine zI ?_ | refine zJ ?_ | refine zK ?_ ?_ | refine zL ?_ ?_ | refine zR (by kernel_rfl) ?_) | simp (maxSteps := 9999999) (disch := omega) only [wq] | (with_reducible refine zM (fun hb => ?_) (fun hb => ?_) <;> (try simp only [hb])) | (with_reducible refine And.intro (by first | omega | (simp; done) | (simp; omega)) ?_) | simp (maxSteps := 9999999) (implicitDefEqProofs := false) only [go_sem, hb] | fail))
        try rfl
    · refine sound_loopR (fun x : {k : Nat // k ≤ p.length} => ⟨[(4, vB true), (10, .a (.c (.d (.v (.float .f64 (floatOfInt .f64 m)))))), (11, .a (.c (.d (.v (.float .f64 (tenP.getD x.1 0)))))), (64, vI p.length), (65, vI x.1)], []⟩) (fun x => p.length - x.1) ⟨0, Nat.zero_le _⟩ [] (by (iterate 2 ((try simp (maxSteps := 9999999) (implicitDefEqProofs := false) only [go_sem, hz]); (try simp (maxSteps := 9999999) (disch := omega) only [wq]))); try simp [hz]) (fun ⟨k, hk⟩ => ?_)
      by_cases hlt : k < p.length
      · have hb : decide ((k : Int) < (p.length : Int)) = true := decide_eq_true (by omega)
        (repeat' (first | with_reducible (first | refine zA fun Kn hK => ?_ | refine zB (by kernel_rfl) ?_ | refine Nx.go ?_ | go_step) | (refine ⟨.float .f64 (tenP.getD (k + 1) 0), ⟨rfl, fun w => run_ten (by omega) w _⟩, ?_⟩) | with_reducible (first | refine zI ?_ | refine zJ ?_ | refine zK ?_ ?_ | refine zL ?_ ?_ | refine zR (by kernel_rfl) ?_) | simp (maxSteps := 9999999) (disch := omega) only [wq] | (with_reducible refine zM (fun hb => ?_) (fun hb => ?_) <;> (try simp only [hb])) | (with_reducible refine And.intro (by first | omega | (simp; done) | (simp; omega)) ?_) | simp (maxSteps := 9999999) (implicitDefEqProofs := false) only [go_sem, hb] | fail))
        refine ⟨[], ⟨k + 1, hlt⟩, ?_⟩
        (iterate 2 ((try simp (maxSteps := 9999999) (implicitDefEqProofs := false) only [go_sem, hb]); (try simp (maxSteps := 9999999) (disch := omega) only [wq])))
        try (simp only [ijq, true_and, and_true]; first | done | omega | (split <;> omega) | (simp; done) | (simp; omega))
      · have hb : decide ((k : Int) < (p.length : Int)) = false := decide_eq_false (by omega)
        obtain rfl : k = p.length := by omega
        (repeat' (first | with_reducible (first | refine zA fun Kn hK => ?_ | refine zB (by kernel_rfl) ?_ | refine Nx.go ?_ | go_step) | (refine ⟨.float .f64 r, ⟨rfl, fun w => run_quo hr w _⟩, ?_⟩) | (refine ⟨_, hg, ?_⟩) | with_reducible (first | refine zI ?_ | refine zJ ?_ | refine zK ?_ ?_ | refine zL ?_ ?_ | refine zR (by kernel_rfl) ?_) | simp (maxSteps := 9999999) (disch := omega) only [wq] | (with_reducible refine zM (fun hb => ?_) (fun hb => ?_) <;> (try simp only [hb])) | (with_reducible refine And.intro (by first | omega | (simp; done) | (simp; omega)) ?_) | simp (maxSteps := 9999999) (implicitDefEqProofs := false) only [go_sem, hb] | fail))
        try rfl
end
end Go.Proofs.YtbeghpkkpnbkgaaGreatDoor
/- Numbers got; orders by them. -/
namespace Go.Proofs.YtbeghpkkpnbkgaaGreatDoor
open Go.RowKit
theorem fcmp {x : Nat} (h : fOk x) : (FloatKind.f64.format.order x x == some Ordering.eq) = true ∧ (FloatKind.f64.format.order x x == some Ordering.lt) = false ∧ (FloatKind.f64.format.order x x == some Ordering.gt) = false := by
  have e : FloatKind.f64.format.order x x = some .eq := order_self h
  rw [e]
  exact ⟨rfl, rfl, rfl⟩
theorem fcmp_nan : (FloatKind.f64.format.order 9221120237041090561 9221120237041090561 == some Ordering.eq) = false := by decide +kernel
theorem cut_nil (u : List UInt8) (h : (cutD u).2.2 = false) : (cutD u).2.1 = [] := by
  induction u with
  | nil => rfl
  | cons c l ih =>
    rw [cutD] at h ⊢
    split
    · rename_i hc
      rw [if_pos hc] at h
      cases h
    · rename_i hc
      rw [if_neg hc] at h
      exact ih h
section
variable {G : Nat → Option (List D)}
theorem digits_ok {k0 n0 : Nat} {l : List UInt8} (hn : n0 < 10 ^ k0) (hk : k0 + l.length ≤ 16) : ∃ n : Int, (allDg l = true → n = numFrom n0 l) ∧ Spec Tryz.prog G 114 [.c (.v (.int .i64 (n0 : Int))), .c (.sl l.length (l.map bD))] (.many [.c (.v (.int .i64 n)), .c (.v (.bool (allDg l && decide (l ≠ []))))]) := by
  have h := ndig_m (G := G) n0 k0 l hn hk
  have e : decide (0 < l.length) = decide (l ≠ []) := by
    rw [decide_eq_decide]
    simp [List.length_pos_iff]
  by_cases hd : allDg l = true
  · rw [if_pos hd, e] at h
    rw [hd]
    exact ⟨_, fun _ => rfl, h⟩
  · rw [if_neg hd] at h
    rw [Bool.not_eq_true] at hd
    rw [hd]
    exact ⟨0, (fun h => by cases h), h⟩
theorem numinf_m {b : List UInt8} {z : Int} {r : Nat} (hz : z = 1 ∧ r = 9218868437227405312 ∧ b = wInf ∨ z = -1 ∧ r = 18442240474082181120 ∧ b = 45 :: wInf) : Spec Tryz.prog G 96 [.c (.sl b.length (b.map bD))] (.many [.c (fD r), .c (.v (.bool true))]) := by
  have h := inf_m (G := G) z r (by rcases hz with ⟨h1, h2, _⟩ | ⟨h1, h2, _⟩ <;> simp [h1, h2])
  unfold fD at *
  rcases hz with ⟨rfl, rfl, hb⟩ | ⟨rfl, rfl, hb⟩
  · have t1 : (b == [105, 110, 102]) = true := by rw [hb]; rfl
    clear hb
    refine spec_of Tryz.func96 rfl rfl rfl (by kernel_rfl) rfl fun K => ?_
    (repeat' (first | with_reducible (first | refine zA fun Kn hK => ?_ | refine zB (by kernel_rfl) ?_ | refine Nx.go ?_ | go_step) | (refine ⟨_, h, ?_⟩) | with_reducible (first | refine zI ?_ | refine zJ ?_ | refine zK ?_ ?_ | refine zL ?_ ?_ | refine zR (by kernel_rfl) ?_) | simp (maxSteps := 9999999) (disch := omega) only [wq] | (with_reducible refine zM (fun hb => ?_) (fun hb => ?_) <;> (try simp only [hb])) | (with_reducible refine And.intro (by first | omega | (simp; done) | (simp; omega)) ?_) | simp (maxSteps := 9999999) (implicitDefEqProofs := false) only [go_sem, t1] | fail))
  · have t1 : (b == [105, 110, 102]) = false := by rw [hb]; rfl
    have t2 : (b == [45, 105, 110, 102]) = true := by rw [hb]; rfl
    clear hb
    refine spec_of Tryz.func96 rfl rfl rfl (by kernel_rfl) rfl fun K => ?_
    (repeat' (first | with_reducible (first | refine zA fun Kn hK => ?_ | refine zB (by kernel_rfl) ?_ | refine Nx.go ?_ | go_step) | (refine ⟨_, h, ?_⟩) | with_reducible (first | refine zI ?_ | refine zJ ?_ | refine zK ?_ ?_ | refine zL ?_ ?_ | refine zR (by kernel_rfl) ?_) | simp (maxSteps := 9999999) (disch := omega) only [wq] | (with_reducible refine zM (fun hb => ?_) (fun hb => ?_) <;> (try simp only [hb])) | (with_reducible refine And.intro (by first | omega | (simp; done) | (simp; omega)) ?_) | simp (maxSteps := 9999999) (implicitDefEqProofs := false) only [go_sem, t1, t2] | fail))
theorem numnan_m {b : List UInt8} (hb : b = wNan) : Spec Tryz.prog G 96 [.c (.sl b.length (b.map bD))] (.many [.c (fD 9221120237041090561), .c (.v (.bool true))]) := by
  have h := nan_m (G := G)
  unfold fD at *
  have t1 : (b == [105, 110, 102]) = false := by rw [hb]; rfl
  have t2 : (b == [45, 105, 110, 102]) = false := by rw [hb]; rfl
  have t3 : (b == [110, 97, 110]) = true := by rw [hb]; rfl
  clear hb
  refine spec_of Tryz.func96 rfl rfl rfl (by kernel_rfl) rfl fun K => ?_
  (repeat' (first | with_reducible (first | refine zA fun Kn hK => ?_ | refine zB (by kernel_rfl) ?_ | refine Nx.go ?_ | go_step) | (refine ⟨_, h, ?_⟩) | with_reducible (first | refine zI ?_ | refine zJ ?_ | refine zK ?_ ?_ | refine zL ?_ ?_ | refine zR (by kernel_rfl) ?_) | simp (maxSteps := 9999999) (disch := omega) only [wq] | (with_reducible refine zM (fun hb => ?_) (fun hb => ?_) <;> (try simp only [hb])) | (with_reducible refine And.intro (by first | omega | (simp; done) | (simp; omega)) ?_) | simp (maxSteps := 9999999) (implicitDefEqProofs := false) only [go_sem, t1, t2, t3] | fail))
theorem numget_m (b : List UInt8) (hn : b.length ≤ 1000000000) (hnan : b ≠ wNan) : ∃ r, fOk r ∧ Spec Tryz.prog G 96 [.c (.sl b.length (b.map bD))] (.many [.c (fD r), .c (.v (.bool (numB b)))]) := by
  by_cases h1 : b = wInf
  · refine ⟨9218868437227405312, by unfold fOk; decide +kernel, ?_⟩
    have e : numB b = true := by simp [numB, h1]
    rw [e]
    exact numinf_m (.inl ⟨rfl, rfl, h1⟩)
  by_cases h2 : b = 45 :: wInf
  · refine ⟨18442240474082181120, by unfold fOk; decide +kernel, ?_⟩
    have e : numB b = true := by simp [numB, h2]
    rw [e]
    exact numinf_m (.inr ⟨rfl, rfl, h2⟩)
  have e : numB b = numBody (unsig b) := by simp [numB, h1, h2]
  rw [e]
  have hu : (unsig b).length ≤ b.length := by
    unfold unsig
    cases b with
    | nil => simp
    | cons c l => dsimp only; split <;> simp
  have hc := cut_len (unsig b)
  have H : GetH G b (unsig b) (cutD (unsig b)).1 (cutD (unsig b)).2.1 (cutD (unsig b)).2.2 (decide (b.head? = some 45)) :=
    ⟨by simpa using h1, by simpa using h2, by simpa using hnan, pre1_m b hn, cut_m _ (by omega), by omega⟩
  have hz := cut_nil (unsig b)
  unfold numBody
  generalize (cutD (unsig b)).1 = w at *
  generalize (cutD (unsig b)).2.1 = p at *
  generalize (cutD (unsig b)).2.2 = s at *
  by_cases hl : w.length + p.length ≤ 15
  · rw [decide_eq_true hl, Bool.true_and]
    have hl' : decide ((w.length : Int) + (p.length : Int) > 15) = false := decide_eq_false (by omega)
    obtain ⟨n, hn1, g1⟩ := digits_ok (G := G) (k0 := 0) (n0 := 0) (l := w) (by decide) (by omega)
    by_cases hq : (allDg w && decide (w ≠ [])) = true
    · have hw : allDg w = true := by
        rw [Bool.and_eq_true] at hq
        exact hq.1
      have hnn := hn1 hw
      have hlt := numFrom_lt w 0 0 (fun c hc => List.all_eq_true.1 hw c hc) (by decide)
      rw [Nat.zero_add] at hlt
      obtain ⟨m, hm1, g2⟩ := digits_ok (G := G) (k0 := w.length) (n0 := numFrom 0 w) (l := p) hlt (by omega)
      rw [← hnn] at g2
      rw [hq] at g1 ⊢
      rw [Bool.true_and]
      by_cases hs : (!s || (allDg p && decide (p ≠ []))) = true
      · rw [hs]
        obtain ⟨N, J, hr, hne⟩ := tenP_num p.length (by omega)
        cases s with
        | false =>
          have hp := hz rfl
          obtain ⟨r, hdv, hrk⟩ := div_ok (int_ok n) hr hne
          have hb := Ieee.Format.div_lt _ hdv
          exact ⟨_, by split; exact sg_ok hrk; exact hrk, get_good (m := n) H hl' (by omega) g1 (fun h => by cases h) (fun _ => ⟨hp, rfl⟩) hdv hb⟩
        | true =>
          have hs2 : (allDg p && decide (p ≠ [])) = true := by simpa using hs
          rw [hs2] at g2
          obtain ⟨r, hdv, hrk⟩ := div_ok (int_ok m) hr hne
          have hb := Ieee.Format.div_lt _ hdv
          exact ⟨_, by split; exact sg_ok hrk; exact hrk, get_good (m := m) H hl' (by omega) g1 (fun _ => g2) (fun h => by cases h) hdv hb⟩
      · rw [Bool.not_eq_true] at hs
        rw [hs]
        refine ⟨0, by unfold fOk; decide +kernel, get_bad H hl' g1 (fun _ _ => g2) ?_⟩
        rw [hs]
        rfl
    · rw [Bool.not_eq_true] at hq
      rw [hq] at g1 ⊢
      refine ⟨0, by unfold fOk; decide +kernel, get_bad (m := 0) (q2 := false) H hl' g1 (fun _ h => by cases h) rfl⟩
  · rw [decide_eq_false hl]
    exact ⟨0, by unfold fOk; decide +kernel, get_long H (decide_eq_true (by omega))⟩
theorem nanF_m {x : Nat} (h : fOk x) : Spec Tryz.prog G 128 [.c (fD x)] (.one (.c (.v (.bool false)))) := by
  have h1 := (fcmp h).1
  unfold fD
  refine spec_of Tryz.func128 rfl rfl rfl (by kernel_rfl) rfl fun K => ?_
  (repeat' (first | with_reducible (first | refine zA fun Kn hK => ?_ | refine zB (by kernel_rfl) ?_ | refine Nx.go ?_ | go_step) | (refine ⟨.bool false, ⟨rfl, fun w => rfl⟩, ?_⟩) | with_reducible (first | refine zI ?_ | refine zJ ?_ | refine zK ?_ ?_ | refine zL ?_ ?_ | refine zR (by kernel_rfl) ?_) | simp (maxSteps := 9999999) (disch := omega) only [wq] | (with_reducible refine zM (fun hb => ?_) (fun hb => ?_) <;> (try simp only [hb])) | (with_reducible refine And.intro (by first | omega | (simp; done) | (simp; omega)) ?_) | simp (maxSteps := 9999999) (implicitDefEqProofs := false) only [go_sem, h1] | fail))
theorem cmpF_m {x : Nat} (h : fOk x) : Spec Tryz.prog G 109 [.c (fD x), .c (fD x)] (.one (iD 0)) := by
  have h0 := nanF_m (G := G) h
  obtain ⟨h1, h2, h3⟩ := fcmp h
  unfold fD iD at *
  refine spec_of Tryz.func109 rfl rfl rfl (by kernel_rfl) rfl fun K => ?_
  (repeat' (first | with_reducible (first | refine zA fun Kn hK => ?_ | refine zB (by kernel_rfl) ?_ | refine Nx.go ?_ | go_step) | (refine ⟨_, h0, ?_⟩) | (refine ⟨.bool false, ⟨rfl, fun w => rfl⟩, ?_⟩) | with_reducible (first | refine zI ?_ | refine zJ ?_ | refine zK ?_ ?_ | refine zL ?_ ?_ | refine zR (by kernel_rfl) ?_) | simp (maxSteps := 9999999) (disch := omega) only [wq] | (with_reducible refine zM (fun hb => ?_) (fun hb => ?_) <;> (try simp only [hb])) | (with_reducible refine And.intro (by first | omega | (simp; done) | (simp; omega)) ?_) | simp (maxSteps := 9999999) (implicitDefEqProofs := false) only [go_sem, h1, h2, h3] | fail))
  try rfl
/-- A text held against itself, by its number. -/
theorem byF_m (b : List UInt8) (hn : b.length ≤ 1000000000) : Spec Tryz.prog G 108 [.c (.sl b.length (b.map bD)), .c (.sl b.length (b.map bD)), .c (.ptr [fnV 96] 0)] (.many [iD 0, .c (.v (.bool (numB b)))]) := by
  have hf : funcOk Tryz.prog 96 = true := by kernel_rfl
  unfold fnV
  by_cases hb : b = wNan
  · have h := numnan_m (G := G) hb
    have e : numB b = false := by rw [hb]; decide
    rw [e]
    have h1 := fcmp_nan
    generalize b.map bD = L at *
    generalize b.length = n at *
    unfold iD fD at *
    refine spec_of Tryz.func108 rfl rfl rfl (by kernel_rfl) rfl fun K => ?_
    (repeat' (first | with_reducible (first | refine zA fun Kn hK => ?_ | refine zB (by kernel_rfl) ?_ | refine Nx.go ?_ | go_step) | (refine ⟨_, h, ?_⟩) | (refine ⟨.bool true, ⟨rfl, fun w => rfl⟩, ?_⟩) | with_reducible (first | refine zI ?_ | refine zJ ?_ | refine zK ?_ ?_ | refine zL ?_ ?_ | refine zR (by kernel_rfl) ?_) | simp (maxSteps := 9999999) (disch := omega) only [wq] | (with_reducible refine zM (fun hb => ?_) (fun hb => ?_) <;> (try simp only [hb])) | (with_reducible refine And.intro (by first | omega | (simp; done) | (simp; omega)) ?_) | simp (maxSteps := 9999999) (implicitDefEqProofs := false) only [go_sem, hf, h1] | fail))
    try rfl
  · obtain ⟨r, hr, h⟩ := numget_m (G := G) b hn hb
    generalize numB b = q at *
    generalize b.map bD = L at *
    generalize b.length = n at *
    have hc := cmpF_m (G := G) hr
    have h1 := (fcmp hr).1
    unfold iD fD at *
    cases q
    all_goals
      refine spec_of Tryz.func108 rfl rfl rfl (by kernel_rfl) rfl fun K => ?_
      (repeat' (first | with_reducible (first | refine zA fun Kn hK => ?_ | refine zB (by kernel_rfl) ?_ | refine Nx.go ?_ | go_step) | (refine ⟨_, h, ?_⟩) | (refine ⟨_, hc, ?_⟩) | (refine ⟨.bool false, ⟨rfl, fun w => rfl⟩, ?_⟩) | with_reducible (first | refine zI ?_ | refine zJ ?_ | refine zK ?_ ?_ | refine zL ?_ ?_ | refine zR (by kernel_rfl) ?_) | simp (maxSteps := 9999999) (disch := omega) only [wq] | (with_reducible refine zM (fun hb => ?_) (fun hb => ?_) <;> (try simp only [hb])) | (with_reducible refine And.intro (by first | omega | (simp; done) | (simp; omega)) ?_) | simp (maxSteps := 9999999) (implicitDefEqProofs := false) only [go_sem, hf, h1] | fail))
      try rfl
end
end Go.Proofs.YtbeghpkkpnbkgaaGreatDoor
/- The document's orders: three ways, noughts ahead. -/
namespace Go.Proofs.YtbeghpkkpnbkgaaGreatDoor
open Go.RowKit
section
variable {G : Nat → Option (List D)}
theorem three_m : Spec Tryz.prog G 87 [.c (.v (.bool false)), .c (.v (.bool false))] (.one (iD 0)) := by
  unfold iD
  refine spec_of Tryz.func87 rfl rfl rfl (by kernel_rfl) rfl fun K => ?_
  (repeat' (first | with_reducible (first | refine zA fun Kn hK => ?_ | refine zB (by kernel_rfl) ?_ | refine Nx.go ?_ | go_step) | fail | with_reducible (first | refine zI ?_ | refine zJ ?_ | refine zK ?_ ?_ | refine zL ?_ ?_ | refine zR (by kernel_rfl) ?_) | simp (maxSteps := 9999999) (disch := omega) only [wq] | (with_reducible refine zM (fun hb => ?_) (fun hb => ?_) <;> (try simp only [hb])) | (with_reducible refine And.intro (by first | omega | (simp; done) | (simp; omega)) ?_) | simp (maxSteps := 9999999) (implicitDefEqProofs := false) only [go_sem, true_and] | fail))
  try rfl
theorem bareL_step {b : List UInt8} {k : Nat} {x : UInt8} (h : b[k]? = some x) : bareL (b.drop k) = if x = 0 then bareL (b.drop (k + 1)) else b.drop k := by
  obtain ⟨h1, h2⟩ := List.getElem?_eq_some_iff.1 h
  rw [List.drop_eq_getElem_cons h1, h2, bareL]
theorem bare_m (b : List UInt8) (hn : b.length ≤ 1000000000) : Spec Tryz.prog G 91 [.c (.sl b.length (b.map bD))] (.one (.c (.v (.string ⟨(bareL b).toArray⟩)))) := by
  refine spec_of Tryz.func91 rfl rfl rfl (by kernel_rfl) rfl fun K => ?_
  (repeat' (first | with_reducible (first | refine zA fun Kn hK => ?_ | refine zB (by kernel_rfl) ?_ | refine Nx.go ?_ | go_step) | fail | with_reducible (first | refine zI ?_ | refine zJ ?_ | refine zK ?_ ?_ | refine zL ?_ ?_ | refine zR (by kernel_rfl) ?_) | simp (maxSteps := 9999999) (disch := omega) only [wq] | (with_reducible refine zM (fun hb => ?_) (fun hb => ?_) <;> (try simp only [hb])) | (with_reducible refine And.intro (by first | omega | (simp; done) | (simp; omega)) ?_) | simp (maxSteps := 9999999) (implicitDefEqProofs := false) only [go_sem, true_and] | fail))
  refine sound_loopR (fun x : {k : Nat // k ≤ b.length ∧ bareL (b.drop k) = bareL b} => ⟨[(0, vD (.sl b.length (b.map bD))), (3, vI x.1)], []⟩) (fun x => b.length - x.1) ⟨0, by omega, rfl⟩ [] (by (iterate 2 ((try simp (maxSteps := 9999999) (implicitDefEqProofs := false) only [go_sem, true_and]); (try simp (maxSteps := 9999999) (disch := omega) only [wq]))); try simp) (fun ⟨k, hk, hb⟩ => ?_)
  by_cases h : k < b.length
  · have h1 : decide ((k : Int) < (b.length : Int)) = true := decide_eq_true (by omega)
    obtain ⟨x, hx⟩ : ∃ x, b[k]? = some x := ⟨_, List.getElem?_eq_getElem h⟩
    have hg : (b.map bD)[k]? = some (bD x) := by rw [List.getElem?_map, hx]; rfl
    have hs := bareL_step hx
    have hz : ((x.toNat : Int) == 0) = decide (x = 0) := by
      rw [Bool.eq_iff_iff]
      simp only [beq_iff_eq, decide_eq_true_eq, ← UInt8.toNat_inj, UInt8.toNat_ofNat]
      omega
    by_cases c : x = 0
    · rw [decide_eq_true c] at hz
      rw [if_pos c] at hs
      (repeat' (first | with_reducible (first | refine zA fun Kn hK => ?_ | refine zB (by kernel_rfl) ?_ | refine Nx.go ?_ | go_step) | fail | with_reducible (first | refine zI ?_ | refine zJ ?_ | refine zK ?_ ?_ | refine zL ?_ ?_ | refine zR (by kernel_rfl) ?_) | simp (maxSteps := 9999999) (disch := omega) only [wq] | (with_reducible refine zM (fun hb => ?_) (fun hb => ?_) <;> (try simp only [hb])) | (with_reducible refine And.intro (by first | omega | (simp; done) | (simp; omega)) ?_) | simp (maxSteps := 9999999) (implicitDefEqProofs := false) only [go_sem, h1, hg, hz, bD, decide_true, List.length_map] | fail))
      refine ⟨[], ⟨k + 1, by omega, by rw [← hs]; exact hb⟩, ?_⟩
      (iterate 2 ((try simp (maxSteps := 9999999) (implicitDefEqProofs := false) only [go_sem, true_and]); (try simp (maxSteps := 9999999) (disch := omega) only [wq])))
      try (simp only [ijq, true_and, and_true]; first | done | omega | (split <;> omega) | (simp; done) | (simp; omega))
      try omega
    · rw [decide_eq_false c] at hz
      rw [if_neg c] at hs
      have e : b.drop k = bareL b := by rw [← hs]; exact hb
      have hm : ((b.map bD).drop k).take (b.length - k) = (bareL b).map bD := by
        rw [← List.map_drop, e]
        exact List.take_of_length_le (by rw [List.length_map, ← e, List.length_drop]; omega)
      have hl : (bareL b).length = b.length - k := by rw [← e, List.length_drop]
      (repeat' (first | with_reducible (first | refine zA fun Kn hK => ?_ | refine zB (by kernel_rfl) ?_ | refine Nx.go ?_ | go_step) | (refine ⟨bareL b, ?_⟩) | with_reducible (first | refine zI ?_ | refine zJ ?_ | refine zK ?_ ?_ | refine zL ?_ ?_ | refine zR (by kernel_rfl) ?_) | simp (maxSteps := 9999999) (disch := omega) only [wq] | (with_reducible refine zM (fun hb => ?_) (fun hb => ?_) <;> (try simp only [hb])) | (with_reducible refine And.intro (by first | omega | (simp; done) | (simp; omega)) ?_) | simp (maxSteps := 9999999) (implicitDefEqProofs := false) only [go_sem, h1, hg, hz, bD, decide_true, hm, List.length_map] | fail))
      all_goals try rfl
  · have h1 : decide ((k : Int) < (b.length : Int)) = false := decide_eq_false (by omega)
    obtain rfl : k = b.length := by omega
    have e : bareL b = [] := by
      rw [← hb, List.drop_length]
      rfl
    have hm : ((b.map bD).drop b.length).take (b.length - b.length) = [] := by rw [Nat.sub_self]; rfl
    (repeat' (first | with_reducible (first | refine zA fun Kn hK => ?_ | refine zB (by kernel_rfl) ?_ | refine Nx.go ?_ | go_step) | (refine ⟨[], ?_⟩) | with_reducible (first | refine zI ?_ | refine zJ ?_ | refine zK ?_ ?_ | refine zL ?_ ?_ | refine zR (by kernel_rfl) ?_) | simp (maxSteps := 9999999) (disch := omega) only [wq] | (with_reducible refine zM (fun hb => ?_) (fun hb => ?_) <;> (try simp only [hb])) | (with_reducible refine And.intro (by first | omega | (simp; done) | (simp; omega)) ?_) | simp (maxSteps := 9999999) (implicitDefEqProofs := false) only [go_sem, h1, hm, decide_true, List.length_map, Nat.sub_self] | fail))
    all_goals (rw [e])
end
end Go.Proofs.YtbeghpkkpnbkgaaGreatDoor
/- The document's orders, of a text and itself. -/
namespace Go.Proofs.YtbeghpkkpnbkgaaGreatDoor
open Go.RowKit
section
variable {G : Nat → Option (List D)}
theorem bytesLess_self (l : List UInt8) : Op.bytesLess l l = false := by
  induction l with
  | nil => rfl
  | cons x l ih => simp [Op.bytesLess, ih]
theorem rcomp_1 (b : List UInt8) (hn : b.length ≤ 1000000000) : Spec Tryz.prog G 80 [.c (bD 1), .c (.sl b.length (b.map bD)), .c (.sl b.length (b.map bD))] (.many [iD 0, .c (.v (.bool true))]) := by
  have h3 := three_m (G := G)
  rw [show bD 1 = D.v (.int .u8 1) from rfl]
  have hl := bytesLess_self b
  have hb : (b == b) = true := beq_self_eq_true b
  unfold iD at *
  refine spec_of Tryz.func80 rfl rfl rfl (by kernel_rfl) rfl fun K => ?_
  (repeat' (first | with_reducible (first | refine zA fun Kn hK => ?_ | refine zB (by kernel_rfl) ?_ | refine Nx.go ?_ | go_step) | (refine ⟨_, h3, ?_⟩) | (refine ⟨b, ?_⟩) | with_reducible (first | refine zI ?_ | refine zJ ?_ | refine zK ?_ ?_ | refine zL ?_ ?_ | refine zR (by kernel_rfl) ?_) | simp (maxSteps := 9999999) (disch := omega) only [wq] | (with_reducible refine zM (fun hb => ?_) (fun hb => ?_) <;> (try simp only [hb])) | (with_reducible refine And.intro (by first | omega | (simp; done) | (simp; omega)) ?_) | simp (maxSteps := 9999999) (implicitDefEqProofs := false) only [go_sem, hl, hb, Bool.or_true, Bool.not_true, decide_true] | fail))
  try rfl
theorem rcomp_4 (b : List UInt8) (hn : b.length ≤ 1000000000) : Spec Tryz.prog G 80 [.c (bD 4), .c (.sl b.length (b.map bD)), .c (.sl b.length (b.map bD))] (.many [iD 0, .c (.v (.bool true))]) := by
  have h3 := three_m (G := G)
  have hB := bare_m (G := G) b hn
  rw [show bD 4 = D.v (.int .u8 4) from rfl]
  generalize bareL b = r at *
  have hl := bytesLess_self r
  have hb : (r == r) = true := beq_self_eq_true r
  have he : ((r.length : Int) == (r.length : Int)) = true := beq_self_eq_true _
  have hz := str_size r
  unfold iD at *
  refine spec_of Tryz.func80 rfl rfl rfl (by kernel_rfl) rfl fun K => ?_
  (repeat' (first | with_reducible (first | refine zA fun Kn hK => ?_ | refine zB (by kernel_rfl) ?_ | refine Nx.go ?_ | go_step) | (refine ⟨_, h3, ?_⟩) | (refine ⟨_, hB, ?_⟩) | with_reducible (first | refine zI ?_ | refine zJ ?_ | refine zK ?_ ?_ | refine zL ?_ ?_ | refine zR (by kernel_rfl) ?_) | simp (maxSteps := 9999999) (disch := omega) only [wq] | (with_reducible refine zM (fun hb => ?_) (fun hb => ?_) <;> (try simp only [hb])) | (with_reducible refine And.intro (by first | omega | (simp; done) | (simp; omega)) ?_) | simp (maxSteps := 9999999) (implicitDefEqProofs := false) only [go_sem, hl, hb, hz, he, bne, Bool.or_true, Bool.not_true, decide_true] | fail))
  try rfl
theorem rcomp_3 (b : List UInt8) (hn : b.length ≤ 1000000000) : Spec Tryz.prog G 80 [.c (bD 3), .c (.sl b.length (b.map bD)), .c (.sl b.length (b.map bD))] (.many [iD 0, .c (.v (.bool (clockR b).isSome))]) := by
  have h3 := three_m (G := G)
  have hB := rclock_m (G := G) b b.length rfl hn
  rw [show bD 3 = D.v (.int .u8 3) from rfl]
  generalize clockR b = o at *
  unfold resO iD at *
  rcases o with _ | x
  · refine spec_of Tryz.func80 rfl rfl rfl (by kernel_rfl) rfl fun K => ?_
    (repeat' (first | with_reducible (first | refine zA fun Kn hK => ?_ | refine zB (by kernel_rfl) ?_ | refine Nx.go ?_ | go_step) | (refine ⟨_, hB, ?_⟩) | with_reducible (first | refine zI ?_ | refine zJ ?_ | refine zK ?_ ?_ | refine zL ?_ ?_ | refine zR (by kernel_rfl) ?_) | simp (maxSteps := 9999999) (disch := omega) only [wq] | (with_reducible refine zM (fun hb => ?_) (fun hb => ?_) <;> (try simp only [hb])) | (with_reducible refine And.intro (by first | omega | (simp; done) | (simp; omega)) ?_) | simp (maxSteps := 9999999) (implicitDefEqProofs := false) only [go_sem, decide_true] | fail))
    try rfl
  · have h1 : decide ((x : Int) < (x : Int)) = false := decide_eq_false (by omega)
    have h2 : decide ((x : Int) > (x : Int)) = false := decide_eq_false (by omega)
    simp only [Option.getD_some, Option.isSome_some] at hB
    refine spec_of Tryz.func80 rfl rfl rfl (by kernel_rfl) rfl fun K => ?_
    (repeat' (first | with_reducible (first | refine zA fun Kn hK => ?_ | refine zB (by kernel_rfl) ?_ | refine Nx.go ?_ | go_step) | (refine ⟨_, h3, ?_⟩) | (refine ⟨_, hB, ?_⟩) | with_reducible (first | refine zI ?_ | refine zJ ?_ | refine zK ?_ ?_ | refine zL ?_ ?_ | refine zR (by kernel_rfl) ?_) | simp (maxSteps := 9999999) (disch := omega) only [wq] | (with_reducible refine zM (fun hb => ?_) (fun hb => ?_) <;> (try simp only [hb])) | (with_reducible refine And.intro (by first | omega | (simp; done) | (simp; omega)) ?_) | simp (maxSteps := 9999999) (implicitDefEqProofs := false) only [go_sem, h1, h2, decide_true] | fail))
    try rfl
theorem rcomp_5 (b : List UInt8) (hn : b.length ≤ 1000000000) : Spec Tryz.prog G 80 [.c (bD 5), .c (.sl b.length (b.map bD)), .c (.sl b.length (b.map bD))] (.many [iD 0, .c (.v (.bool (dateR b).isSome))]) := by
  have h3 := three_m (G := G)
  have hB := rget_m (G := G) b b.length rfl hn
  rw [show bD 5 = D.v (.int .u8 5) from rfl]
  generalize dateR b = o at *
  unfold resO iD at *
  rcases o with _ | x
  · refine spec_of Tryz.func80 rfl rfl rfl (by kernel_rfl) rfl fun K => ?_
    (repeat' (first | with_reducible (first | refine zA fun Kn hK => ?_ | refine zB (by kernel_rfl) ?_ | refine Nx.go ?_ | go_step) | (refine ⟨_, hB, ?_⟩) | with_reducible (first | refine zI ?_ | refine zJ ?_ | refine zK ?_ ?_ | refine zL ?_ ?_ | refine zR (by kernel_rfl) ?_) | simp (maxSteps := 9999999) (disch := omega) only [wq] | (with_reducible refine zM (fun hb => ?_) (fun hb => ?_) <;> (try simp only [hb])) | (with_reducible refine And.intro (by first | omega | (simp; done) | (simp; omega)) ?_) | simp (maxSteps := 9999999) (implicitDefEqProofs := false) only [go_sem, decide_true] | fail))
    try rfl
  · have h1 : decide ((x : Int) < (x : Int)) = false := decide_eq_false (by omega)
    have h2 : decide ((x : Int) > (x : Int)) = false := decide_eq_false (by omega)
    simp only [Option.getD_some, Option.isSome_some] at hB
    refine spec_of Tryz.func80 rfl rfl rfl (by kernel_rfl) rfl fun K => ?_
    (repeat' (first | with_reducible (first | refine zA fun Kn hK => ?_ | refine zB (by kernel_rfl) ?_ | refine Nx.go ?_ | go_step) | (refine ⟨_, h3, ?_⟩) | (refine ⟨_, hB, ?_⟩) | with_reducible (first | refine zI ?_ | refine zJ ?_ | refine zK ?_ ?_ | refine zL ?_ ?_ | refine zR (by kernel_rfl) ?_) | simp (maxSteps := 9999999) (disch := omega) only [wq] | (with_reducible refine zM (fun hb => ?_) (fun hb => ?_) <;> (try simp only [hb])) | (with_reducible refine And.intro (by first | omega | (simp; done) | (simp; omega)) ?_) | simp (maxSteps := 9999999) (implicitDefEqProofs := false) only [go_sem, h1, h2, decide_true] | fail))
    try rfl
theorem rcomp_0 (o : UInt8) (n : Nat) (L : List D) (h : ¬ (1 ≤ o.toNat ∧ o.toNat ≤ 5)) : Spec Tryz.prog G 80 [.c (bD o), .c (.sl n L), .c (.sl n L)] (.many [iD 0, .c (.v (.bool false))]) := by
  have e1 : ((o.toNat : Int) == 1) = false := by rw [beq_eq_false_iff_ne]; omega
  have e2 : ((o.toNat : Int) == 2) = false := by rw [beq_eq_false_iff_ne]; omega
  have e3 : ((o.toNat : Int) == 3) = false := by rw [beq_eq_false_iff_ne]; omega
  have e4 : ((o.toNat : Int) == 4) = false := by rw [beq_eq_false_iff_ne]; omega
  have e5 : ((o.toNat : Int) == 5) = false := by rw [beq_eq_false_iff_ne]; omega
  unfold iD bD at *
  refine spec_of Tryz.func80 rfl rfl rfl (by kernel_rfl) rfl fun K => ?_
  (repeat' (first | with_reducible (first | refine zA fun Kn hK => ?_ | refine zB (by kernel_rfl) ?_ | refine Nx.go ?_ | go_step) | fail | with_reducible (first | refine zI ?_ | refine zJ ?_ | refine zK ?_ ?_ | refine zL ?_ ?_ | refine zR (by kernel_rfl) ?_) | simp (maxSteps := 9999999) (disch := omega) only [wq] | (with_reducible refine zM (fun hb => ?_) (fun hb => ?_) <;> (try simp only [hb])) | (with_reducible refine And.intro (by first | omega | (simp; done) | (simp; omega)) ?_) | simp (maxSteps := 9999999) (implicitDefEqProofs := false) only [go_sem, e1, e2, e3, e4, e5] | fail))
  try rfl
end
end Go.Proofs.YtbeghpkkpnbkgaaGreatDoor
/- Numbers: the document's way from a text to a float. -/
namespace Go.Proofs.YtbeghpkkpnbkgaaGreatDoor
open Go.RowKit
def runV : List UInt8 → Bool → Nat → Nat → Nat × Nat
  | [], _, n, s => (n, s)
  | c :: l, st, n, s => if c = 46 then runV l true n s else runV l st (10 * n + (c.toNat - 48)) (s + st.toNat)
theorem runV_le : ∀ (l : List UInt8) (f st : Bool) (ct n s : Nat), runN l f st ct = true → ct ≤ 15 → s ≤ ct → (runV l st n s).2 ≤ 15
  | [], f, st, ct, n, s, h, h1, h2 => by
    rw [runV]
    dsimp only
    omega
  | c :: l, f, st, ct, n, s, h, h1, h2 => by
    rw [runN] at h
    rw [runV]
    split
    · rename_i hc
      rw [if_pos hc] at h
      split at h
      · cases h
      · exact runV_le l false true ct n s h h1 h2
    · rename_i hc
      rw [if_neg hc] at h
      split at h
      · rename_i hd
        rw [Bool.and_eq_true, decide_eq_true_eq] at hd
        exact runV_le l false st (ct + 1) _ _ h (by omega) (by cases st <;> simp <;> omega)
      · cases h
structure RInv (l : List UInt8) (q : Bool) (N S : Nat) (p : Nat × Nat × Nat × Nat × Bool) : Prop where
  k : p.1 ≤ l.length
  r : runN (l.drop p.1) (decide (p.1 = 0)) p.2.2.2.2 p.2.2.2.1 = q
  c : p.2.2.2.1 ≤ 15
  n : p.2.1 < 10 ^ p.2.2.2.1
  s : p.2.2.1 ≤ p.2.2.2.1
  v : q = true → runV (l.drop p.1) p.2.2.2.2 p.2.1 p.2.2.1 = (N, S)
theorem RInv.zero {l : List UInt8} {q : Bool} {N S : Nat} (h : runN l true false 0 = q) (hv : q = true → runV l false 0 0 = (N, S)) : RInv l q N S (0, 0, 0, 0, false) :=
  ⟨Nat.zero_le _, h, Nat.zero_le _, by decide, Nat.le_refl _, hv⟩
theorem RInv.dot {l : List UInt8} {q : Bool} {N S k n sc ct : Nat} {st : Bool} {c : UInt8} (h : RInv l q N S (k, n, sc, ct, st)) (hc : l[k]? = some c) (h46 : c = 46) : (st = true ∨ k = 0 ∨ k + 1 = l.length) ∧ q = false ∨ (st = false ∧ k ≠ 0 ∧ k + 1 ≠ l.length) ∧ RInv l q N S (k + 1, n, sc, ct, true) := by
  obtain ⟨h1, h2, h3, h4, h5, h6⟩ := h
  dsimp only at *
  obtain ⟨hk, e⟩ := List.getElem?_eq_some_iff.1 hc
  have e2 : l.drop k = c :: l.drop (k + 1) := by rw [List.drop_eq_getElem_cons hk, e]
  rw [e2, runN, if_pos h46] at h2
  rw [e2, runV, if_pos h46] at h6
  have hl : (l.drop (k + 1) = []) ↔ k + 1 = l.length := by
    rw [List.drop_eq_nil_iff]
    omega
  by_cases h : st = true ∨ k = 0 ∨ k + 1 = l.length
  · refine .inl ⟨h, ?_⟩
    rw [if_pos] at h2
    · exact h2.symm
    · simp only [Bool.or_eq_true, decide_eq_true_eq, hl, or_assoc]
      exact h
  · simp only [not_or, Bool.not_eq_true] at h
    refine .inr ⟨h, by omega, ?_, h3, h4, h5, h6⟩
    rw [if_neg] at h2
    · simpa using h2
    · simp only [Bool.or_eq_true, decide_eq_true_eq, hl, not_or, Bool.not_eq_true]
      exact ⟨⟨h.1, h.2.1⟩, h.2.2⟩
theorem RInv.dig {l : List UInt8} {q : Bool} {N S k n sc ct : Nat} {st : Bool} {c : UInt8} (h : RInv l q N S (k, n, sc, ct, st)) (hc : l[k]? = some c) (h46 : c ≠ 46) : (isDg c = false ∨ ct = 15) ∧ q = false ∨ (isDg c = true ∧ ct ≠ 15) ∧ RInv l q N S (k + 1, 10 * n + (c.toNat - 48), sc + st.toNat, ct + 1, st) := by
  obtain ⟨h1, h2, h3, h4, h5, h6⟩ := h
  dsimp only at *
  obtain ⟨hk, e⟩ := List.getElem?_eq_some_iff.1 hc
  have e2 : l.drop k = c :: l.drop (k + 1) := by rw [List.drop_eq_getElem_cons hk, e]
  rw [e2, runN, if_neg h46] at h2
  rw [e2, runV, if_neg h46] at h6
  by_cases h : isDg c = true ∧ ct ≠ 15
  · refine .inr ⟨h, by dsimp only; omega, ?_, by dsimp only; omega, ?_, ?_, h6⟩
    · rw [if_pos (by simp [h])] at h2
      simpa using h2
    · have hd : 48 ≤ c.toNat ∧ c.toNat ≤ 57 := of_decide_eq_true h.1
      dsimp only
      rw [Nat.pow_succ]
      omega
    · dsimp only
      cases st <;> simp <;> omega
  · refine .inl ⟨?_, ?_⟩
    · by_cases hd : isDg c = true
      · exact .inr (Classical.byContradiction fun hn => h ⟨hd, hn⟩)
      · exact .inl (by simpa using hd)
    · rw [if_neg (by simpa using h)] at h2
      exact h2.symm
def b2I (b : Bool) : Int := match b with
  | true => 1
  | false => 0
@[go_sem] theorem b2I_t : b2I true = 1 := rfl
@[go_sem] theorem b2I_f : b2I false = 0 := rfl
theorem run_f0 (w : World) (t : TypeId) : (binOp .quo t (.float .f64 4607182418800017408) (.float .f64 0)).run Tryz.prog w = .ok (.float .f64 9218868437227405312) w := run_float_arith w .quo t .f64 _ _ _ (by decide +kernel)
theorem run_f1 (w : World) (t : TypeId) : (binOp .quo t (.float .f64 13830554455654793216) (.float .f64 0)).run Tryz.prog w = .ok (.float .f64 18442240474082181120) w := run_float_arith w .quo t .f64 _ _ _ (by decide +kernel)
section
variable {G : Nat → Option (List D)}
theorem zero_m : Spec Tryz.prog G 102 [] (.one (.c (fD 0))) := by
  unfold fD
  refine spec_of Tryz.func102 rfl rfl rfl (by kernel_rfl) rfl fun K => ?_
  (repeat' (first | with_reducible (first | refine zA fun Kn hK => ?_ | refine zB (by kernel_rfl) ?_ | refine Nx.go ?_ | go_step) | fail | with_reducible (first | refine zI ?_ | refine zJ ?_ | refine zK ?_ ?_ | refine zL ?_ ?_ | refine zR (by kernel_rfl) ?_) | simp (maxSteps := 9999999) (disch := omega) only [wq] | (with_reducible refine zM (fun hb => ?_) (fun hb => ?_) <;> (try simp only [hb])) | (with_reducible refine And.intro (by first | omega | (simp; done) | (simp; omega)) ?_) | simp (maxSteps := 9999999) (implicitDefEqProofs := false) only [go_sem, true_and] | fail))
theorem rinf_m {b : List UInt8} {r : Nat} (hz : r = 9218868437227405312 ∧ b = wInf ∨ r = 18442240474082181120 ∧ b = 45 :: wInf) : Spec Tryz.prog G 88 [.c (.sl b.length (b.map bD))] (.many [.c (fD r), .c (.v (.bool true))]) := by
  have h := zero_m (G := G)
  have q0 := run_f0
  have q1 := run_f1
  unfold fD at *
  rcases hz with ⟨rfl, hb⟩ | ⟨rfl, hb⟩
  · have t1 : (b == [105, 110, 102]) = true := by rw [hb]; rfl
    clear hb
    refine spec_of Tryz.func88 rfl rfl rfl (by kernel_rfl) rfl fun K => ?_
    (repeat' (first | with_reducible (first | refine zA fun Kn hK => ?_ | refine zB (by kernel_rfl) ?_ | refine Nx.go ?_ | go_step) | (refine ⟨_, h, ?_⟩) | (refine ⟨.float .f64 9218868437227405312, ⟨rfl, fun w => q0 w _⟩, ?_⟩) | with_reducible (first | refine zI ?_ | refine zJ ?_ | refine zK ?_ ?_ | refine zL ?_ ?_ | refine zR (by kernel_rfl) ?_) | simp (maxSteps := 9999999) (disch := omega) only [wq] | (with_reducible refine zM (fun hb => ?_) (fun hb => ?_) <;> (try simp only [hb])) | (with_reducible refine And.intro (by first | omega | (simp; done) | (simp; omega)) ?_) | simp (maxSteps := 9999999) (implicitDefEqProofs := false) only [go_sem, t1] | fail))
  · have t1 : (b == [105, 110, 102]) = false := by rw [hb]; rfl
    have t2 : (b == [45, 105, 110, 102]) = true := by rw [hb]; rfl
    clear hb
    refine spec_of Tryz.func88 rfl rfl rfl (by kernel_rfl) rfl fun K => ?_
    (repeat' (first | with_reducible (first | refine zA fun Kn hK => ?_ | refine zB (by kernel_rfl) ?_ | refine Nx.go ?_ | go_step) | (refine ⟨_, h, ?_⟩) | (refine ⟨.float .f64 18442240474082181120, ⟨rfl, fun w => q1 w _⟩, ?_⟩) | with_reducible (first | refine zI ?_ | refine zJ ?_ | refine zK ?_ ?_ | refine zL ?_ ?_ | refine zR (by kernel_rfl) ?_) | simp (maxSteps := 9999999) (disch := omega) only [wq] | (with_reducible refine zM (fun hb => ?_) (fun hb => ?_) <;> (try simp only [hb])) | (with_reducible refine And.intro (by first | omega | (simp; done) | (simp; omega)) ?_) | simp (maxSteps := 9999999) (implicitDefEqProofs := false) only [go_sem, t1, t2] | fail))
end
end Go.Proofs.YtbeghpkkpnbkgaaGreatDoor
/- Numbers: the document's Get; its order by numbers. -/
namespace Go.Proofs.YtbeghpkkpnbkgaaGreatDoor
open Go.RowKit
section
variable {G : Nat → Option (List D)}
/-- What is known of a text ahead of the walk. -/
structure RH (b l : List UInt8) (a : Nat) (q : Bool) (N S out : Nat) : Prop where
  h0 : RInv l q N S (0, 0, 0, 0, false)
  hbl : b.length = a + l.length
  hat : ∀ k, b[a + k]? = l[k]?
  t1 : (b == [105, 110, 102]) = false
  t2 : (b == [45, 105, 110, 102]) = false
  t3 : (b == [110, 97, 110]) = false
  hn : b.length ≤ 1000000000
  hR : q = true → S ≤ 15 ∧ ∃ rr, Ieee.double.div (floatOfInt .f64 N) (tenP.getD S 0) = some rr ∧ out = if a = 1 then Op.negFloat .f64 rr else rr
  hN : q = false → out = 0
theorem rnum0_w {b l : List UInt8} {q : Bool} {N S out : Nat} (h : RH b l 0 q N S out) (h9 : decide ((b.length : Int) > 0) = false) :
    Spec Tryz.prog G 88 [.c (.sl b.length (b.map bD))] (.many [.c (.v (.float .f64 out)), .c (.v (.bool q))]) := by
  obtain ⟨h0, hbl, hat, t1, t2, t3, hn, hR, hN⟩ := h
  simp only [Nat.zero_ne_one, ite_false] at hR
  refine spec_of Tryz.func88 rfl rfl rfl (by kernel_rfl) rfl fun K => ?_
  (repeat' (first | with_reducible (first | refine zA fun Kn hK => ?_ | refine zB (by kernel_rfl) ?_ | refine Nx.go ?_ | go_step) | fail | with_reducible (first | refine zI ?_ | refine zJ ?_ | refine zK ?_ ?_ | refine zL ?_ ?_ | refine zR (by kernel_rfl) ?_) | simp (maxSteps := 9999999) (disch := omega) only [wq] | (with_reducible refine zM (fun hb => ?_) (fun hb => ?_) <;> (try simp only [hb])) | (with_reducible refine And.intro (by first | omega | (simp; done) | (simp; omega)) ?_) | simp (maxSteps := 9999999) (implicitDefEqProofs := false) only [go_sem, t1, t2, t3, h9] | fail))
  refine sound_loopR (fun x : {p : Nat × Nat × Nat × Nat × Bool // RInv l q N S p} => ⟨[(0, vD (.sl b.length (b.map bD))), (5, vI 0), (6, vI x.1.2.1), (7, vI x.1.2.2.1), (8, vI x.1.2.2.2.1), (9, vI (b2I x.1.2.2.2.2)), (10, vI ((0 + x.1.1 : Nat) : Int))], []⟩) (fun x => l.length - x.1.1) ⟨(0, 0, 0, 0, false), h0⟩ [] (by (iterate 2 ((try simp (maxSteps := 9999999) (implicitDefEqProofs := false) only [go_sem, true_and]); (try simp (maxSteps := 9999999) (disch := omega) only [wq]))); try simp) (fun ⟨(k, n, sc, ct, st), hI⟩ => ?_)
  have hk := hI.k
  have hcn := hI.c
  have hnn := hI.n
  have hsn := hI.s
  dsimp only at hk hcn hnn hsn ⊢
  have hp15 : 10 ^ ct ≤ 10 ^ 15 := Nat.pow_le_pow_right (by omega) hcn
  have hnL : n < 1000000000000000 := Nat.lt_of_lt_of_le hnn hp15
  clear hnn hp15
  by_cases hlt : k < l.length
  · have hb : decide (((0 + k : Nat) : Int) < (b.length : Int)) = true := decide_eq_true (by omega)
    obtain ⟨c, hc⟩ : ∃ c, l[k]? = some c := ⟨_, List.getElem?_eq_getElem hlt⟩
    have hg : (b.map bD)[0 + k]? = some (bD c) := by rw [List.getElem?_map, hat, hc]; rfl
    have hat1 : (((0 + k : Nat) : Int) == 0) = decide (k = 0) := by rw [Bool.eq_iff_iff]; simp <;> omega
    have hend : (((0 + k : Nat) : Int) == (b.length : Int) - 1) = decide (k + 1 = l.length) := by rw [Bool.eq_iff_iff]; simp <;> omega
    (try simp only [Nat.zero_add] at hb hg hat1 hend)
    by_cases h46 : c = 46
    · have e46 : ((c.toNat : Int) == 46) = true := by rw [h46]; rfl
      rcases hI.dot hc h46 with ⟨ho, hq⟩ | ⟨⟨o1, o2, o3⟩, hI2⟩
      · obtain rfl := hN hq
        subst hq
        cases st with
        | true =>
          (repeat' (first | with_reducible (first | refine zA fun Kn hK => ?_ | refine zB (by kernel_rfl) ?_ | refine Nx.go ?_ | go_step) | fail | with_reducible (first | refine zI ?_ | refine zJ ?_ | refine zK ?_ ?_ | refine zL ?_ ?_ | refine zR (by kernel_rfl) ?_) | simp (maxSteps := 9999999) (disch := omega) only [wq] | (with_reducible refine zM (fun hb => ?_) (fun hb => ?_) <;> (try simp only [hb])) | (with_reducible refine And.intro (by first | omega | (simp; done) | (simp; omega)) ?_) | simp (maxSteps := 9999999) (implicitDefEqProofs := false) only [go_sem, hb, hg, e46, bD, List.length_map, gt_iff_lt, decide_true, decide_false] | fail))
        | false =>
          rcases ho with ho | ho | ho
          · cases ho
          · rw [decide_eq_true ho] at hat1
            (repeat' (first | with_reducible (first | refine zA fun Kn hK => ?_ | refine zB (by kernel_rfl) ?_ | refine Nx.go ?_ | go_step) | fail | with_reducible (first | refine zI ?_ | refine zJ ?_ | refine zK ?_ ?_ | refine zL ?_ ?_ | refine zR (by kernel_rfl) ?_) | simp (maxSteps := 9999999) (disch := omega) only [wq] | (with_reducible refine zM (fun hb => ?_) (fun hb => ?_) <;> (try simp only [hb])) | (with_reducible refine And.intro (by first | omega | (simp; done) | (simp; omega)) ?_) | simp (maxSteps := 9999999) (implicitDefEqProofs := false) only [go_sem, hb, hg, e46, hat1, bD, List.length_map, gt_iff_lt, decide_true, decide_false] | fail))
          · rw [decide_eq_true ho] at hend
            cases hz : decide (k = 0) <;> rw [hz] at hat1
            · (repeat' (first | with_reducible (first | refine zA fun Kn hK => ?_ | refine zB (by kernel_rfl) ?_ | refine Nx.go ?_ | go_step) | fail | with_reducible (first | refine zI ?_ | refine zJ ?_ | refine zK ?_ ?_ | refine zL ?_ ?_ | refine zR (by kernel_rfl) ?_) | simp (maxSteps := 9999999) (disch := omega) only [wq] | (with_reducible refine zM (fun hb => ?_) (fun hb => ?_) <;> (try simp only [hb])) | (with_reducible refine And.intro (by first | omega | (simp; done) | (simp; omega)) ?_) | simp (maxSteps := 9999999) (implicitDefEqProofs := false) only [go_sem, hb, hg, e46, hat1, hend, bD, List.length_map, gt_iff_lt, decide_true, decide_false] | fail))
            · (repeat' (first | with_reducible (first | refine zA fun Kn hK => ?_ | refine zB (by kernel_rfl) ?_ | refine Nx.go ?_ | go_step) | fail | with_reducible (first | refine zI ?_ | refine zJ ?_ | refine zK ?_ ?_ | refine zL ?_ ?_ | refine zR (by kernel_rfl) ?_) | simp (maxSteps := 9999999) (disch := omega) only [wq] | (with_reducible refine zM (fun hb => ?_) (fun hb => ?_) <;> (try simp only [hb])) | (with_reducible refine And.intro (by first | omega | (simp; done) | (simp; omega)) ?_) | simp (maxSteps := 9999999) (implicitDefEqProofs := false) only [go_sem, hb, hg, e46, hat1, hend, bD, List.length_map, gt_iff_lt, decide_true, decide_false] | fail))
      · subst o1
        rw [decide_eq_false o2] at hat1
        rw [decide_eq_false o3] at hend
        (repeat' (first | with_reducible (first | refine zA fun Kn hK => ?_ | refine zB (by kernel_rfl) ?_ | refine Nx.go ?_ | go_step) | fail | with_reducible (first | refine zI ?_ | refine zJ ?_ | refine zK ?_ ?_ | refine zL ?_ ?_ | refine zR (by kernel_rfl) ?_) | simp (maxSteps := 9999999) (disch := omega) only [wq] | (with_reducible refine zM (fun hb => ?_) (fun hb => ?_) <;> (try simp only [hb])) | (with_reducible refine And.intro (by first | omega | (simp; done) | (simp; omega)) ?_) | simp (maxSteps := 9999999) (implicitDefEqProofs := false) only [go_sem, hb, hg, e46, hat1, hend, bD, List.length_map, gt_iff_lt, decide_true, decide_false] | fail))
        refine ⟨[], ⟨(k + 1, n, sc, ct, true), hI2⟩, ?_⟩
        (iterate 2 ((try simp (maxSteps := 9999999) (implicitDefEqProofs := false) only [go_sem, true_and]); (try simp (maxSteps := 9999999) (disch := omega) only [wq])))
        try (simp only [ijq, true_and, and_true]; first | done | omega | (split <;> omega) | (simp; done) | (simp; omega))
        try omega
    · have e46 : ((c.toNat : Int) == 46) = false := by
        rw [beq_eq_false_iff_ne]
        intro h
        exact h46 (UInt8.toNat_inj.1 (by simpa using Int.ofNat.inj h))
      rcases hI.dig hc h46 with ⟨ho, hq⟩ | ⟨⟨o1, o2⟩, hI2⟩
      · obtain rfl := hN hq
        subst hq
        by_cases hd : isDg c = true
        · have hd2 : 48 ≤ c.toNat ∧ c.toNat ≤ 57 := of_decide_eq_true hd
          have f1 : decide ((c.toNat : Int) < 48) = false := decide_eq_false (by omega)
          have f2 : decide ((c.toNat : Int) > 57) = false := decide_eq_false (by omega)
          have f3 : ((ct : Int) == 15) = true := by
            rcases ho with ho | ho
            · rw [ho] at hd; cases hd
            · rw [ho]; rfl
          (repeat' (first | with_reducible (first | refine zA fun Kn hK => ?_ | refine zB (by kernel_rfl) ?_ | refine Nx.go ?_ | go_step) | fail | with_reducible (first | refine zI ?_ | refine zJ ?_ | refine zK ?_ ?_ | refine zL ?_ ?_ | refine zR (by kernel_rfl) ?_) | simp (maxSteps := 9999999) (disch := omega) only [wq] | (with_reducible refine zM (fun hb => ?_) (fun hb => ?_) <;> (try simp only [hb])) | (with_reducible refine And.intro (by first | omega | (simp; done) | (simp; omega)) ?_) | simp (maxSteps := 9999999) (implicitDefEqProofs := false) only [go_sem, hb, hg, e46, f1, f2, f3, bD, List.length_map] | fail))
        · have hx := UInt8.toNat_lt c
          by_cases h48 : c.toNat < 48
          · have f1 : decide ((c.toNat : Int) < 48) = true := decide_eq_true (by omega)
            (repeat' (first | with_reducible (first | refine zA fun Kn hK => ?_ | refine zB (by kernel_rfl) ?_ | refine Nx.go ?_ | go_step) | fail | with_reducible (first | refine zI ?_ | refine zJ ?_ | refine zK ?_ ?_ | refine zL ?_ ?_ | refine zR (by kernel_rfl) ?_) | simp (maxSteps := 9999999) (disch := omega) only [wq] | (with_reducible refine zM (fun hb => ?_) (fun hb => ?_) <;> (try simp only [hb])) | (with_reducible refine And.intro (by first | omega | (simp; done) | (simp; omega)) ?_) | simp (maxSteps := 9999999) (implicitDefEqProofs := false) only [go_sem, hb, hg, e46, f1, bD, List.length_map] | fail))
          · have f1 : decide ((c.toNat : Int) < 48) = false := decide_eq_false (by omega)
            have f2 : decide ((c.toNat : Int) > 57) = true := decide_eq_true (by
              have : ¬ (48 ≤ c.toNat ∧ c.toNat ≤ 57) := fun h => hd (decide_eq_true h)
              omega)
            (repeat' (first | with_reducible (first | refine zA fun Kn hK => ?_ | refine zB (by kernel_rfl) ?_ | refine Nx.go ?_ | go_step) | fail | with_reducible (first | refine zI ?_ | refine zJ ?_ | refine zK ?_ ?_ | refine zL ?_ ?_ | refine zR (by kernel_rfl) ?_) | simp (maxSteps := 9999999) (disch := omega) only [wq] | (with_reducible refine zM (fun hb => ?_) (fun hb => ?_) <;> (try simp only [hb])) | (with_reducible refine And.intro (by first | omega | (simp; done) | (simp; omega)) ?_) | simp (maxSteps := 9999999) (implicitDefEqProofs := false) only [go_sem, hb, hg, e46, f1, f2, bD, List.length_map] | fail))
      · have hd2 : 48 ≤ c.toNat ∧ c.toNat ≤ 57 := of_decide_eq_true o1
        have f1 : decide ((c.toNat : Int) < 48) = false := decide_eq_false (by omega)
        have f2 : decide ((c.toNat : Int) > 57) = false := decide_eq_false (by omega)
        have f3 : ((ct : Int) == 15) = false := by rw [beq_eq_false_iff_ne]; omega
        cases st
        all_goals
          (repeat' (first | with_reducible (first | refine zA fun Kn hK => ?_ | refine zB (by kernel_rfl) ?_ | refine Nx.go ?_ | go_step) | fail | with_reducible (first | refine zI ?_ | refine zJ ?_ | refine zK ?_ ?_ | refine zL ?_ ?_ | refine zR (by kernel_rfl) ?_) | simp (maxSteps := 9999999) (disch := omega) only [wq] | (with_reducible refine zM (fun hb => ?_) (fun hb => ?_) <;> (try simp only [hb])) | (with_reducible refine And.intro (by first | omega | (simp; done) | (simp; omega)) ?_) | simp (maxSteps := 9999999) (implicitDefEqProofs := false) only [go_sem, hb, hg, e46, f1, f2, f3, bD, List.length_map] | fail))
          refine ⟨[], ⟨_, hI2⟩, ?_⟩
          (iterate 2 ((try simp (maxSteps := 9999999) (implicitDefEqProofs := false) only [go_sem, Bool.toNat_true, Bool.toNat_false]); (try simp (maxSteps := 9999999) (disch := omega) only [wq])))
          try (simp only [ijq, true_and, and_true]; first | done | omega | (split <;> omega) | (simp; done) | (simp; omega))
          try omega
  · have hb : decide (((0 + k : Nat) : Int) < (b.length : Int)) = false := decide_eq_false (by omega)
    (try simp only [Nat.zero_add] at hb)
    obtain rfl : k = l.length := by omega
    have hr := hI.r
    have hv := hI.v
    dsimp only at hr hv
    rw [List.drop_length] at hr hv
    by_cases h0' : ct = 0
    · have f3 : ((ct : Int) == 0) = true := by rw [h0']; rfl
      have hq : q = false := by rw [← hr, runN, h0']; rfl
      obtain rfl := hN hq
      subst hq
      (repeat' (first | with_reducible (first | refine zA fun Kn hK => ?_ | refine zB (by kernel_rfl) ?_ | refine Nx.go ?_ | go_step) | fail | with_reducible (first | refine zI ?_ | refine zJ ?_ | refine zK ?_ ?_ | refine zL ?_ ?_ | refine zR (by kernel_rfl) ?_) | simp (maxSteps := 9999999) (disch := omega) only [wq] | (with_reducible refine zM (fun hb => ?_) (fun hb => ?_) <;> (try simp only [hb])) | (with_reducible refine And.intro (by first | omega | (simp; done) | (simp; omega)) ?_) | simp (maxSteps := 9999999) (implicitDefEqProofs := false) only [go_sem, hb, f3] | fail))
    · have f3 : ((ct : Int) == 0) = false := by rw [beq_eq_false_iff_ne]; omega
      have hq : q = true := by rw [← hr, runN]; simpa using h0'
      have hv := hv hq
      rw [runV] at hv
      injection hv with hn hs
      subst hn hs
      obtain ⟨hS, rr, hdv, hout⟩ := hR hq
      have hout := hout.symm
      subst hout
      subst hq
      (repeat' (first | with_reducible (first | refine zA fun Kn hK => ?_ | refine zB (by kernel_rfl) ?_ | refine Nx.go ?_ | go_step) | fail | with_reducible (first | refine zI ?_ | refine zJ ?_ | refine zK ?_ ?_ | refine zL ?_ ?_ | refine zR (by kernel_rfl) ?_) | simp (maxSteps := 9999999) (disch := omega) only [wq] | (with_reducible refine zM (fun hb => ?_) (fun hb => ?_) <;> (try simp only [hb])) | (with_reducible refine And.intro (by first | omega | (simp; done) | (simp; omega)) ?_) | simp (maxSteps := 9999999) (implicitDefEqProofs := false) only [go_sem, hb, f3] | fail))
      refine sound_loopR (fun x : {j : Nat // j ≤ sc} => ⟨[(5, vI 0), (6, vI n), (7, vI sc), (12, vI ((10 ^ x.1 : Nat) : Int)), (13, vI x.1)], []⟩) (fun x => sc - x.1) ⟨0, Nat.zero_le _⟩ [] (by (iterate 2 ((try simp (maxSteps := 9999999) (implicitDefEqProofs := false) only [go_sem, true_and]); (try simp (maxSteps := 9999999) (disch := omega) only [wq]))); try simp) (fun ⟨j, hj⟩ => ?_)
      by_cases hjl : j < sc
      · have hb2 : decide ((j : Int) < (sc : Int)) = true := decide_eq_true (by omega)
        have hp : 10 ^ (j + 1) ≤ 10 ^ 15 := Nat.pow_le_pow_right (by omega) (by omega)
        have hp1 : 10 ^ (j + 1) = 10 * 10 ^ j := by rw [Nat.pow_succ, Nat.mul_comm]
        rw [hp1] at hp
        have hp2 : ((10 ^ (j + 1) : Nat) : Int) = 10 * ((10 ^ j : Nat) : Int) := by rw [hp1]; omega
        generalize 10 ^ j = T at *
        (repeat' (first | with_reducible (first | refine zA fun Kn hK => ?_ | refine zB (by kernel_rfl) ?_ | refine Nx.go ?_ | go_step) | fail | with_reducible (first | refine zI ?_ | refine zJ ?_ | refine zK ?_ ?_ | refine zL ?_ ?_ | refine zR (by kernel_rfl) ?_) | simp (maxSteps := 9999999) (disch := omega) only [wq] | (with_reducible refine zM (fun hb => ?_) (fun hb => ?_) <;> (try simp only [hb])) | (with_reducible refine And.intro (by first | omega | (simp; done) | (simp; omega)) ?_) | simp (maxSteps := 9999999) (implicitDefEqProofs := false) only [go_sem, hb2] | fail))
        refine ⟨[], ⟨j + 1, hjl⟩, ?_⟩
        (iterate 2 ((try simp (maxSteps := 9999999) (implicitDefEqProofs := false) only [go_sem, hp2]); (try simp (maxSteps := 9999999) (disch := omega) only [wq])))
        try (simp only [ijq, true_and, and_true]; first | done | omega | (split <;> omega) | (simp; done) | (simp; omega))
        try omega
      · have hb2 : decide ((j : Int) < (sc : Int)) = false := decide_eq_false (by omega)
        obtain rfl : j = sc := by omega
        have hT := tenI j (by omega)
        have hT2 : floatOfInt .f64 ((10 ^ j : Nat) : Int) = tenP.getD j 0 := by rw [← hT, Int.natCast_pow]; rfl
        generalize ((10 ^ j : Nat) : Int) = T at *
        have hi1 := fun (w : World) (s : TypeId) hs => run_i2f n w s 101 hs Tryz.underlying101
        have hi2 := fun (w : World) (s : TypeId) hs => run_i2f T w s 101 hs Tryz.underlying101
        rw [hT2] at hi2
        (repeat' (first | with_reducible (first | refine zA fun Kn hK => ?_ | refine zB (by kernel_rfl) ?_ | refine Nx.go ?_ | go_step) | (refine ⟨.float .f64 (floatOfInt .f64 n), ⟨rfl, fun w => hi1 w _ rfl⟩, ?_⟩) | (refine ⟨.float .f64 (tenP.getD j 0), ⟨rfl, fun w => hi2 w _ rfl⟩, ?_⟩) | (refine ⟨.float .f64 rr, ⟨rfl, fun w => run_quo hdv w _⟩, ?_⟩) | with_reducible (first | refine zI ?_ | refine zJ ?_ | refine zK ?_ ?_ | refine zL ?_ ?_ | refine zR (by kernel_rfl) ?_) | simp (maxSteps := 9999999) (disch := omega) only [wq] | (with_reducible refine zM (fun hb => ?_) (fun hb => ?_) <;> (try simp only [hb])) | (with_reducible refine And.intro (by first | omega | (simp; done) | (simp; omega)) ?_) | simp (maxSteps := 9999999) (implicitDefEqProofs := false) only [go_sem, hb2] | fail))
        try rfl
theorem rnumP_w {b l : List UInt8} {q : Bool} {N S out : Nat} {x : UInt8} (h : RH b l 0 q N S out) (h9 : decide ((b.length : Int) > 0) = true) (g0 : (b.map bD)[0]? = some (bD x)) (e45 : ((x.toNat : Int) == 45) = false) (hpos : 0 < b.length) :
    Spec Tryz.prog G 88 [.c (.sl b.length (b.map bD))] (.many [.c (.v (.float .f64 out)), .c (.v (.bool q))]) := by
  obtain ⟨h0, hbl, hat, t1, t2, t3, hn, hR, hN⟩ := h
  simp only [Nat.zero_ne_one, ite_false] at hR
  refine spec_of Tryz.func88 rfl rfl rfl (by kernel_rfl) rfl fun K => ?_
  (repeat' (first | with_reducible (first | refine zA fun Kn hK => ?_ | refine zB (by kernel_rfl) ?_ | refine Nx.go ?_ | go_step) | fail | with_reducible (first | refine zI ?_ | refine zJ ?_ | refine zK ?_ ?_ | refine zL ?_ ?_ | refine zR (by kernel_rfl) ?_) | simp (maxSteps := 9999999) (disch := omega) only [wq] | (with_reducible refine zM (fun hb => ?_) (fun hb => ?_) <;> (try simp only [hb])) | (with_reducible refine And.intro (by first | omega | (simp; done) | (simp; omega)) ?_) | simp (maxSteps := 9999999) (implicitDefEqProofs := false) only [go_sem, t1, t2, t3, h9, g0, e45, bD, List.length_map] | fail))
  refine sound_loopR (fun x : {p : Nat × Nat × Nat × Nat × Bool // RInv l q N S p} => ⟨[(0, vD (.sl b.length (b.map bD))), (5, vI 0), (6, vI x.1.2.1), (7, vI x.1.2.2.1), (8, vI x.1.2.2.2.1), (9, vI (b2I x.1.2.2.2.2)), (10, vI ((0 + x.1.1 : Nat) : Int))], []⟩) (fun x => l.length - x.1.1) ⟨(0, 0, 0, 0, false), h0⟩ [] (by (iterate 2 ((try simp (maxSteps := 9999999) (implicitDefEqProofs := false) only [go_sem, true_and]); (try simp (maxSteps := 9999999) (disch := omega) only [wq]))); try simp) (fun ⟨(k, n, sc, ct, st), hI⟩ => ?_)
  have hk := hI.k
  have hcn := hI.c
  have hnn := hI.n
  have hsn := hI.s
  dsimp only at hk hcn hnn hsn ⊢
  have hp15 : 10 ^ ct ≤ 10 ^ 15 := Nat.pow_le_pow_right (by omega) hcn
  have hnL : n < 1000000000000000 := Nat.lt_of_lt_of_le hnn hp15
  clear hnn hp15
  by_cases hlt : k < l.length
  · have hb : decide (((0 + k : Nat) : Int) < (b.length : Int)) = true := decide_eq_true (by omega)
    obtain ⟨c, hc⟩ : ∃ c, l[k]? = some c := ⟨_, List.getElem?_eq_getElem hlt⟩
    have hg : (b.map bD)[0 + k]? = some (bD c) := by rw [List.getElem?_map, hat, hc]; rfl
    have hat1 : (((0 + k : Nat) : Int) == 0) = decide (k = 0) := by rw [Bool.eq_iff_iff]; simp <;> omega
    have hend : (((0 + k : Nat) : Int) == (b.length : Int) - 1) = decide (k + 1 = l.length) := by rw [Bool.eq_iff_iff]; simp <;> omega
    (try simp only [Nat.zero_add] at hb hg hat1 hend)
    by_cases h46 : c = 46
    · have e46 : ((c.toNat : Int) == 46) = true := by rw [h46]; rfl
      rcases hI.dot hc h46 with ⟨ho, hq⟩ | ⟨⟨o1, o2, o3⟩, hI2⟩
      · obtain rfl := hN hq
        subst hq
        cases st with
        | true =>
          (repeat' (first | with_reducible (first | refine zA fun Kn hK => ?_ | refine zB (by kernel_rfl) ?_ | refine Nx.go ?_ | go_step) | fail | with_reducible (first | refine zI ?_ | refine zJ ?_ | refine zK ?_ ?_ | refine zL ?_ ?_ | refine zR (by kernel_rfl) ?_) | simp (maxSteps := 9999999) (disch := omega) only [wq] | (with_reducible refine zM (fun hb => ?_) (fun hb => ?_) <;> (try simp only [hb])) | (with_reducible refine And.intro (by first | omega | (simp; done) | (simp; omega)) ?_) | simp (maxSteps := 9999999) (implicitDefEqProofs := false) only [go_sem, hb, hg, e46, bD, List.length_map, gt_iff_lt, decide_true, decide_false] | fail))
        | false =>
          rcases ho with ho | ho | ho
          · cases ho
          · rw [decide_eq_true ho] at hat1
            (repeat' (first | with_reducible (first | refine zA fun Kn hK => ?_ | refine zB (by kernel_rfl) ?_ | refine Nx.go ?_ | go_step) | fail | with_reducible (first | refine zI ?_ | refine zJ ?_ | refine zK ?_ ?_ | refine zL ?_ ?_ | refine zR (by kernel_rfl) ?_) | simp (maxSteps := 9999999) (disch := omega) only [wq] | (with_reducible refine zM (fun hb => ?_) (fun hb => ?_) <;> (try simp only [hb])) | (with_reducible refine And.intro (by first | omega | (simp; done) | (simp; omega)) ?_) | simp (maxSteps := 9999999) (implicitDefEqProofs := false) only [go_sem, hb, hg, e46, hat1, bD, List.length_map, gt_iff_lt, decide_true, decide_false] | fail))
          · rw [decide_eq_true ho] at hend
            cases hz : decide (k = 0) <;> rw [hz] at hat1
            · (repeat' (first | with_reducible (first | refine zA fun Kn hK => ?_ | refine zB (by kernel_rfl) ?_ | refine Nx.go ?_ | go_step) | fail | with_reducible (first | refine zI ?_ | refine zJ ?_ | refine zK ?_ ?_ | refine zL ?_ ?_ | refine zR (by kernel_rfl) ?_) | simp (maxSteps := 9999999) (disch := omega) only [wq] | (with_reducible refine zM (fun hb => ?_) (fun hb => ?_) <;> (try simp only [hb])) | (with_reducible refine And.intro (by first | omega | (simp; done) | (simp; omega)) ?_) | simp (maxSteps := 9999999) (implicitDefEqProofs := false) only [go_sem, hb, hg, e46, hat1, hend, bD, List.length_map, gt_iff_lt, decide_true, decide_false] | fail))
            · (repeat' (first | with_reducible (first | refine zA fun Kn hK => ?_ | refine zB (by kernel_rfl) ?_ | refine Nx.go ?_ | go_step) | fail | with_reducible (first | refine zI ?_ | refine zJ ?_ | refine zK ?_ ?_ | refine zL ?_ ?_ | refine zR (by kernel_rfl) ?_) | simp (maxSteps := 9999999) (disch := omega) only [wq] | (with_reducible refine zM (fun hb => ?_) (fun hb => ?_) <;> (try simp only [hb])) | (with_reducible refine And.intro (by first | omega | (simp; done) | (simp; omega)) ?_) | simp (maxSteps := 9999999) (implicitDefEqProofs := false) only [go_sem, hb, hg, e46, hat1, hend, bD, List.length_map, gt_iff_lt, decide_true, decide_false] | fail))
      · subst o1
        rw [decide_eq_false o2] at hat1
        rw [decide_eq_false o3] at hend
        (repeat' (first | with_reducible (first | refine zA fun Kn hK => ?_ | refine zB (by kernel_rfl) ?_ | refine Nx.go ?_ | go_step) | fail | with_reducible (first | refine zI ?_ | refine zJ ?_ | refine zK ?_ ?_ | refine zL ?_ ?_ | refine zR (by kernel_rfl) ?_) | simp (maxSteps := 9999999) (disch := omega) only [wq] | (with_reducible refine zM (fun hb => ?_) (fun hb => ?_) <;> (try simp only [hb])) | (with_reducible refine And.intro (by first | omega | (simp; done) | (simp; omega)) ?_) | simp (maxSteps := 9999999) (implicitDefEqProofs := false) only [go_sem, hb, hg, e46, hat1, hend, bD, List.length_map, gt_iff_lt, decide_true, decide_false] | fail))
        refine ⟨[], ⟨(k + 1, n, sc, ct, true), hI2⟩, ?_⟩
        (iterate 2 ((try simp (maxSteps := 9999999) (implicitDefEqProofs := false) only [go_sem, true_and]); (try simp (maxSteps := 9999999) (disch := omega) only [wq])))
        try (simp only [ijq, true_and, and_true]; first | done | omega | (split <;> omega) | (simp; done) | (simp; omega))
        try omega
    · have e46 : ((c.toNat : Int) == 46) = false := by
        rw [beq_eq_false_iff_ne]
        intro h
        exact h46 (UInt8.toNat_inj.1 (by simpa using Int.ofNat.inj h))
      rcases hI.dig hc h46 with ⟨ho, hq⟩ | ⟨⟨o1, o2⟩, hI2⟩
      · obtain rfl := hN hq
        subst hq
        by_cases hd : isDg c = true
        · have hd2 : 48 ≤ c.toNat ∧ c.toNat ≤ 57 := of_decide_eq_true hd
          have f1 : decide ((c.toNat : Int) < 48) = false := decide_eq_false (by omega)
          have f2 : decide ((c.toNat : Int) > 57) = false := decide_eq_false (by omega)
          have f3 : ((ct : Int) == 15) = true := by
            rcases ho with ho | ho
            · rw [ho] at hd; cases hd
            · rw [ho]; rfl
          (repeat' (first | with_reducible (first | refine zA fun Kn hK => ?_ | refine zB (by kernel_rfl) ?_ | refine Nx.go ?_ | go_step) | fail | with_reducible (first | refine zI ?_ | refine zJ ?_ | refine zK ?_ ?_ | refine zL ?_ ?_ | refine zR (by kernel_rfl) ?_) | simp (maxSteps := 9999999) (disch := omega) only [wq] | (with_reducible refine zM (fun hb => ?_) (fun hb => ?_) <;> (try simp only [hb])) | (with_reducible refine And.intro (by first | omega | (simp; done) | (simp; omega)) ?_) | simp (maxSteps := 9999999) (implicitDefEqProofs := false) only [go_sem, hb, hg, e46, f1, f2, f3, bD, List.length_map] | fail))
        · have hx := UInt8.toNat_lt c
          by_cases h48 : c.toNat < 48
          · have f1 : decide ((c.toNat : Int) < 48) = true := decide_eq_true (by omega)
            (repeat' (first | with_reducible (first | refine zA fun Kn hK => ?_ | refine zB (by kernel_rfl) ?_ | refine Nx.go ?_ | go_step) | fail | with_reducible (first | refine zI ?_ | refine zJ ?_ | refine zK ?_ ?_ | refine zL ?_ ?_ | refine zR (by kernel_rfl) ?_) | simp (maxSteps := 9999999) (disch := omega) only [wq] | (with_reducible refine zM (fun hb => ?_) (fun hb => ?_) <;> (try simp only [hb])) | (with_reducible refine And.intro (by first | omega | (simp; done) | (simp; omega)) ?_) | simp (maxSteps := 9999999) (implicitDefEqProofs := false) only [go_sem, hb, hg, e46, f1, bD, List.length_map] | fail))
          · have f1 : decide ((c.toNat : Int) < 48) = false := decide_eq_false (by omega)
            have f2 : decide ((c.toNat : Int) > 57) = true := decide_eq_true (by
              have : ¬ (48 ≤ c.toNat ∧ c.toNat ≤ 57) := fun h => hd (decide_eq_true h)
              omega)
            (repeat' (first | with_reducible (first | refine zA fun Kn hK => ?_ | refine zB (by kernel_rfl) ?_ | refine Nx.go ?_ | go_step) | fail | with_reducible (first | refine zI ?_ | refine zJ ?_ | refine zK ?_ ?_ | refine zL ?_ ?_ | refine zR (by kernel_rfl) ?_) | simp (maxSteps := 9999999) (disch := omega) only [wq] | (with_reducible refine zM (fun hb => ?_) (fun hb => ?_) <;> (try simp only [hb])) | (with_reducible refine And.intro (by first | omega | (simp; done) | (simp; omega)) ?_) | simp (maxSteps := 9999999) (implicitDefEqProofs := false) only [go_sem, hb, hg, e46, f1, f2, bD, List.length_map] | fail))
      · have hd2 : 48 ≤ c.toNat ∧ c.toNat ≤ 57 := of_decide_eq_true o1
        have f1 : decide ((c.toNat : Int) < 48) = false := decide_eq_false (by omega)
        have f2 : decide ((c.toNat : Int) > 57) = false := decide_eq_false (by omega)
        have f3 : ((ct : Int) == 15) = false := by rw [beq_eq_false_iff_ne]; omega
        cases st
        all_goals
          (repeat' (first | with_reducible (first | refine zA fun Kn hK => ?_ | refine zB (by kernel_rfl) ?_ | refine Nx.go ?_ | go_step) | fail | with_reducible (first | refine zI ?_ | refine zJ ?_ | refine zK ?_ ?_ | refine zL ?_ ?_ | refine zR (by kernel_rfl) ?_) | simp (maxSteps := 9999999) (disch := omega) only [wq] | (with_reducible refine zM (fun hb => ?_) (fun hb => ?_) <;> (try simp only [hb])) | (with_reducible refine And.intro (by first | omega | (simp; done) | (simp; omega)) ?_) | simp (maxSteps := 9999999) (implicitDefEqProofs := false) only [go_sem, hb, hg, e46, f1, f2, f3, bD, List.length_map] | fail))
          refine ⟨[], ⟨_, hI2⟩, ?_⟩
          (iterate 2 ((try simp (maxSteps := 9999999) (implicitDefEqProofs := false) only [go_sem, Bool.toNat_true, Bool.toNat_false]); (try simp (maxSteps := 9999999) (disch := omega) only [wq])))
          try (simp only [ijq, true_and, and_true]; first | done | omega | (split <;> omega) | (simp; done) | (simp; omega))
          try omega
  · have hb : decide (((0 + k : Nat) : Int) < (b.length : Int)) = false := decide_eq_false (by omega)
    (try simp only [Nat.zero_add] at hb)
    obtain rfl : k = l.length := by omega
    have hr := hI.r
    have hv := hI.v
    dsimp only at hr hv
    rw [List.drop_length] at hr hv
    by_cases h0' : ct = 0
    · have f3 : ((ct : Int) == 0) = true := by rw [h0']; rfl
      have hq : q = false := by rw [← hr, runN, h0']; rfl
      obtain rfl := hN hq
      subst hq
      (repeat' (first | with_reducible (first | refine zA fun Kn hK => ?_ | refine zB (by kernel_rfl) ?_ | refine Nx.go ?_ | go_step) | fail | with_reducible (first | refine zI ?_ | refine zJ ?_ | refine zK ?_ ?_ | refine zL ?_ ?_ | refine zR (by kernel_rfl) ?_) | simp (maxSteps := 9999999) (disch := omega) only [wq] | (with_reducible refine zM (fun hb => ?_) (fun hb => ?_) <;> (try simp only [hb])) | (with_reducible refine And.intro (by first | omega | (simp; done) | (simp; omega)) ?_) | simp (maxSteps := 9999999) (implicitDefEqProofs := false) only [go_sem, hb, f3] | fail))
    · have f3 : ((ct : Int) == 0) = false := by rw [beq_eq_false_iff_ne]; omega
      have hq : q = true := by rw [← hr, runN]; simpa using h0'
      have hv := hv hq
      rw [runV] at hv
      injection hv with hn hs
      subst hn hs
      obtain ⟨hS, rr, hdv, hout⟩ := hR hq
      have hout := hout.symm
      subst hout
      subst hq
      (repeat' (first | with_reducible (first | refine zA fun Kn hK => ?_ | refine zB (by kernel_rfl) ?_ | refine Nx.go ?_ | go_step) | fail | with_reducible (first | refine zI ?_ | refine zJ ?_ | refine zK ?_ ?_ | refine zL ?_ ?_ | refine zR (by kernel_rfl) ?_) | simp (maxSteps := 9999999) (disch := omega) only [wq] | (with_reducible refine zM (fun hb => ?_) (fun hb => ?_) <;> (try simp only [hb])) | (with_reducible refine And.intro (by first | omega | (simp; done) | (simp; omega)) ?_) | simp (maxSteps := 9999999) (implicitDefEqProofs := false) only [go_sem, hb, f3] | fail))
      refine sound_loopR (fun x : {j : Nat // j ≤ sc} => ⟨[(5, vI 0), (6, vI n), (7, vI sc), (12, vI ((10 ^ x.1 : Nat) : Int)), (13, vI x.1)], []⟩) (fun x => sc - x.1) ⟨0, Nat.zero_le _⟩ [] (by (iterate 2 ((try simp (maxSteps := 9999999) (implicitDefEqProofs := false) only [go_sem, true_and]); (try simp (maxSteps := 9999999) (disch := omega) only [wq]))); try simp) (fun ⟨j, hj⟩ => ?_)
      by_cases hjl : j < sc
      · have hb2 : decide ((j : Int) < (sc : Int)) = true := decide_eq_true (by omega)
        have hp : 10 ^ (j + 1) ≤ 10 ^ 15 := Nat.pow_le_pow_right (by omega) (by omega)
        have hp1 : 10 ^ (j + 1) = 10 * 10 ^ j := by rw [Nat.pow_succ, Nat.mul_comm]
        rw [hp1] at hp
        have hp2 : ((10 ^ (j + 1) : Nat) : Int) = 10 * ((10 ^ j : Nat) : Int) := by rw [hp1]; omega
        generalize 10 ^ j = T at *
        (repeat' (first | with_reducible (first | refine zA fun Kn hK => ?_ | refine zB (by kernel_rfl) ?_ | refine Nx.go ?_ | go_step) | fail | with_reducible (first | refine zI ?_ | refine zJ ?_ | refine zK ?_ ?_ | refine zL ?_ ?_ | refine zR (by kernel_rfl) ?_) | simp (maxSteps := 9999999) (disch := omega) only [wq] | (with_reducible refine zM (fun hb => ?_) (fun hb => ?_) <;> (try simp only [hb])) | (with_reducible refine And.intro (by first | omega | (simp; done) | (simp; omega)) ?_) | simp (maxSteps := 9999999) (implicitDefEqProofs := false) only [go_sem, hb2] | fail))
        refine ⟨[], ⟨j + 1, hjl⟩, ?_⟩
        (iterate 2 ((try simp (maxSteps := 9999999) (implicitDefEqProofs := false) only [go_sem, hp2]); (try simp (maxSteps := 9999999) (disch := omega) only [wq])))
        try (simp only [ijq, true_and, and_true]; first | done | omega | (split <;> omega) | (simp; done) | (simp; omega))
        try omega
      · have hb2 : decide ((j : Int) < (sc : Int)) = false := decide_eq_false (by omega)
        obtain rfl : j = sc := by omega
        have hT := tenI j (by omega)
        have hT2 : floatOfInt .f64 ((10 ^ j : Nat) : Int) = tenP.getD j 0 := by rw [← hT, Int.natCast_pow]; rfl
        generalize ((10 ^ j : Nat) : Int) = T at *
        have hi1 := fun (w : World) (s : TypeId) hs => run_i2f n w s 101 hs Tryz.underlying101
        have hi2 := fun (w : World) (s : TypeId) hs => run_i2f T w s 101 hs Tryz.underlying101
        rw [hT2] at hi2
        (repeat' (first | with_reducible (first | refine zA fun Kn hK => ?_ | refine zB (by kernel_rfl) ?_ | refine Nx.go ?_ | go_step) | (refine ⟨.float .f64 (floatOfInt .f64 n), ⟨rfl, fun w => hi1 w _ rfl⟩, ?_⟩) | (refine ⟨.float .f64 (tenP.getD j 0), ⟨rfl, fun w => hi2 w _ rfl⟩, ?_⟩) | (refine ⟨.float .f64 rr, ⟨rfl, fun w => run_quo hdv w _⟩, ?_⟩) | with_reducible (first | refine zI ?_ | refine zJ ?_ | refine zK ?_ ?_ | refine zL ?_ ?_ | refine zR (by kernel_rfl) ?_) | simp (maxSteps := 9999999) (disch := omega) only [wq] | (with_reducible refine zM (fun hb => ?_) (fun hb => ?_) <;> (try simp only [hb])) | (with_reducible refine And.intro (by first | omega | (simp; done) | (simp; omega)) ?_) | simp (maxSteps := 9999999) (implicitDefEqProofs := false) only [go_sem, hb2] | fail))
        try rfl
theorem rnumM_w {b l : List UInt8} {q : Bool} {N S out : Nat} {x : UInt8} (h : RH b l 1 q N S out) (h9 : decide ((b.length : Int) > 0) = true) (g0 : (b.map bD)[0]? = some (bD x)) (e45 : ((x.toNat : Int) == 45) = true) (hpos : 0 < b.length) :
    Spec Tryz.prog G 88 [.c (.sl b.length (b.map bD))] (.many [.c (.v (.float .f64 out)), .c (.v (.bool q))]) := by
  obtain ⟨h0, hbl, hat, t1, t2, t3, hn, hR, hN⟩ := h
  simp only [ite_true] at hR
  refine spec_of Tryz.func88 rfl rfl rfl (by kernel_rfl) rfl fun K => ?_
  (repeat' (first | with_reducible (first | refine zA fun Kn hK => ?_ | refine zB (by kernel_rfl) ?_ | refine Nx.go ?_ | go_step) | fail | with_reducible (first | refine zI ?_ | refine zJ ?_ | refine zK ?_ ?_ | refine zL ?_ ?_ | refine zR (by kernel_rfl) ?_) | simp (maxSteps := 9999999) (disch := omega) only [wq] | (with_reducible refine zM (fun hb => ?_) (fun hb => ?_) <;> (try simp only [hb])) | (with_reducible refine And.intro (by first | omega | (simp; done) | (simp; omega)) ?_) | simp (maxSteps := 9999999) (implicitDefEqProofs := false) only [go_sem, t1, t2, t3, h9, g0, e45, bD, List.length_map] | fail))
  refine sound_loopR (fun x : {p : Nat × Nat × Nat × Nat × Bool // RInv l q N S p} => ⟨[(0, vD (.sl b.length (b.map bD))), (5, vI 1), (6, vI x.1.2.1), (7, vI x.1.2.2.1), (8, vI x.1.2.2.2.1), (9, vI (b2I x.1.2.2.2.2)), (10, vI ((1 + x.1.1 : Nat) : Int))], []⟩) (fun x => l.length - x.1.1) ⟨(0, 0, 0, 0, false), h0⟩ [] (by (iterate 2 ((try simp (maxSteps := 9999999) (implicitDefEqProofs := false) only [go_sem, true_and]); (try simp (maxSteps := 9999999) (disch := omega) only [wq]))); try simp) (fun ⟨(k, n, sc, ct, st), hI⟩ => ?_)
  have hk := hI.k
  have hcn := hI.c
  have hnn := hI.n
  have hsn := hI.s
  dsimp only at hk hcn hnn hsn ⊢
  have hp15 : 10 ^ ct ≤ 10 ^ 15 := Nat.pow_le_pow_right (by omega) hcn
  have hnL : n < 1000000000000000 := Nat.lt_of_lt_of_le hnn hp15
  clear hnn hp15
  by_cases hlt : k < l.length
  · have hb : decide (((1 + k : Nat) : Int) < (b.length : Int)) = true := decide_eq_true (by omega)
    obtain ⟨c, hc⟩ : ∃ c, l[k]? = some c := ⟨_, List.getElem?_eq_getElem hlt⟩
    have hg : (b.map bD)[1 + k]? = some (bD c) := by rw [List.getElem?_map, hat, hc]; rfl
    have hat1 : (((1 + k : Nat) : Int) == 1) = decide (k = 0) := by rw [Bool.eq_iff_iff]; simp <;> omega
    have hend : (((1 + k : Nat) : Int) == (b.length : Int) - 1) = decide (k + 1 = l.length) := by rw [Bool.eq_iff_iff]; simp <;> omega
    (try simp only [Nat.zero_add] at hb hg hat1 hend)
    by_cases h46 : c = 46
    · have e46 : ((c.toNat : Int) == 46) = true := by rw [h46]; rfl
      rcases hI.dot hc h46 with ⟨ho, hq⟩ | ⟨⟨o1, o2, o3⟩, hI2⟩
      · obtain rfl := hN hq
        subst hq
        cases st with
        | true =>
          (repeat' (first | with_reducible (first | refine zA fun Kn hK => ?_ | refine zB (by kernel_rfl) ?_ | refine Nx.go ?_ | go_step) | fail | with_reducible (first | refine zI ?_ | refine zJ ?_ | refine zK ?_ ?_ | refine zL ?_ ?_ | refine zR (by kernel_rfl) ?_) | simp (maxSteps := 9999999) (disch := omega) only [wq] | (with_reducible refine zM (fun hb => ?_) (fun hb => ?_) <;> (try simp only [hb])) | (with_reducible refine And.intro (by first | omega | (simp; done) | (simp; omega)) ?_) | simp (maxSteps := 9999999) (implicitDefEqProofs := false) only [go_sem, hb, hg, e46, bD, List.length_map, gt_iff_lt, decide_true, decide_false] | fail))
        | false =>
          rcases ho with ho | ho | ho
          · cases ho
          · rw [decide_eq_true ho] at hat1
            (repeat' (first | with_reducible (first | refine zA fun Kn hK => ?_ | refine zB (by kernel_rfl) ?_ | refine Nx.go ?_ | go_step) | fail | with_reducible (first | refine zI ?_ | refine zJ ?_ | refine zK ?_ ?_ | refine zL ?_ ?_ | refine zR (by kernel_rfl) ?_) | simp (maxSteps := 9999999) (disch := omega) only [wq] | (with_reducible refine zM (fun hb => ?_) (fun hb => ?_) <;> (try simp only [hb])) | (with_reducible refine And.intro (by first | omega | (simp; done) | (simp; omega)) ?_) | simp (maxSteps := 9999999) (implicitDefEqProofs := false) only [go_sem, hb, hg, e46, hat1, bD, List.length_map, gt_iff_lt, decide_true, decide_false] | fail))
          · rw [decide_eq_true ho] at hend
            cases hz : decide (k = 0) <;> rw [hz] at hat1
            · (repeat' (first | with_reducible (first | refine zA fun Kn hK => ?_ | refine zB (by kernel_rfl) ?_ | refine Nx.go ?_ | go_step) | fail | with_reducible (first | refine zI ?_ | refine zJ ?_ | refine zK ?_ ?_ | refine zL ?_ ?_ | refine zR (by kernel_rfl) ?_) | simp (maxSteps := 9999999) (disch := omega) only [wq] | (with_reducible refine zM (fun hb => ?_) (fun hb => ?_) <;> (try simp only [hb])) | (with_reducible refine And.intro (by first | omega | (simp; done) | (simp; omega)) ?_) | simp (maxSteps := 9999999) (implicitDefEqProofs := false) only [go_sem, hb, hg, e46, hat1, hend, bD, List.length_map, gt_iff_lt, decide_true, decide_false] | fail))
            · (repeat' (first | with_reducible (first | refine zA fun Kn hK => ?_ | refine zB (by kernel_rfl) ?_ | refine Nx.go ?_ | go_step) | fail | with_reducible (first | refine zI ?_ | refine zJ ?_ | refine zK ?_ ?_ | refine zL ?_ ?_ | refine zR (by kernel_rfl) ?_) | simp (maxSteps := 9999999) (disch := omega) only [wq] | (with_reducible refine zM (fun hb => ?_) (fun hb => ?_) <;> (try simp only [hb])) | (with_reducible refine And.intro (by first | omega | (simp; done) | (simp; omega)) ?_) | simp (maxSteps := 9999999) (implicitDefEqProofs := false) only [go_sem, hb, hg, e46, hat1, hend, bD, List.length_map, gt_iff_lt, decide_true, decide_false] | fail))
      · subst o1
        rw [decide_eq_false o2] at hat1
        rw [decide_eq_false o3] at hend
        (repeat' (first | with_reducible (first | refine zA fun Kn hK => ?_ | refine zB (by kernel_rfl) ?_ | refine Nx.go ?_ | go_step) | fail | with_reducible (first | refine zI ?_ | refine zJ ?_ | refine zK ?_ ?_ | refine zL ?_ ?_ | refine zR (by kernel_rfl) ?_) | simp (maxSteps := 9999999) (disch := omega) only [wq] | (with_reducible refine zM (fun hb => ?_) (fun hb => ?_) <;> (try simp only [hb])) | (with_reducible refine And.intro (by first | omega | (simp; done) | (simp; omega)) ?_) | simp (maxSteps := 9999999) (implicitDefEqProofs := false) only [go_sem, hb, hg, e46, hat1, hend, bD, List.length_map, gt_iff_lt, decide_true, decide_false] | fail))
        refine ⟨[], ⟨(k + 1, n, sc, ct, true), hI2⟩, ?_⟩
        (iterate 2 ((try simp (maxSteps := 9999999) (implicitDefEqProofs := false) only [go_sem, true_and]); (try simp (maxSteps := 9999999) (disch := omega) only [wq])))
        try (simp only [ijq, true_and, and_true]; first | done | omega | (split <;> omega) | (simp; done) | (simp; omega))
        try omega
    · have e46 : ((c.toNat : Int) == 46) = false := by
        rw [beq_eq_false_iff_ne]
        intro h
        exact h46 (UInt8.toNat_inj.1 (by simpa using Int.ofNat.inj h))
      rcases hI.dig hc h46 with ⟨ho, hq⟩ | ⟨⟨o1, o2⟩, hI2⟩
      · obtain rfl := hN hq
        subst hq
        by_cases hd : isDg c = true
        · have hd2 : 48 ≤ c.toNat ∧ c.toNat ≤ 57 := of_decide_eq_true hd
          have f1 : decide ((c.toNat : Int) < 48) = false := decide_eq_false (by omega)
          have f2 : decide ((c.toNat : Int) > 57) = false := decide_eq_false (by omega)
          have f3 : ((ct : Int) == 15) = true := by
            rcases ho with ho | ho
            · rw [ho] at hd; cases hd
            · rw [ho]; rfl
          (repeat' (first | with_reducible (first | refine zA fun Kn hK => ?_ | refine zB (by kernel_rfl) ?_ | refine Nx.go ?_ | go_step) | fail | with_reducible (first | refine zI ?_ | refine zJ ?_ | refine zK ?_ ?_ | refine zL ?_ ?_ | refine zR (by kernel_rfl) ?_) | simp (maxSteps := 9999999) (disch := omega) only [wq] | (with_reducible refine zM (fun hb => ?_) (fun hb => ?_) <;> (try simp only [hb])) | (with_reducible refine And.intro (by first | omega | (simp; done) | (simp; omega)) ?_) | simp (maxSteps := 9999999) (implicitDefEqProofs := false) only [go_sem, hb, hg, e46, f1, f2, f3, bD, List.length_map] | fail))
        · have hx := UInt8.toNat_lt c
          by_cases h48 : c.toNat < 48
          · have f1 : decide ((c.toNat : Int) < 48) = true := decide_eq_true (by omega)
            (repeat' (first | with_reducible (first | refine zA fun Kn hK => ?_ | refine zB (by kernel_rfl) ?_ | refine Nx.go ?_ | go_step) | fail | with_reducible (first | refine zI ?_ | refine zJ ?_ | refine zK ?_ ?_ | refine zL ?_ ?_ | refine zR (by kernel_rfl) ?_) | simp (maxSteps := 9999999) (disch := omega) only [wq] | (with_reducible refine zM (fun hb => ?_) (fun hb => ?_) <;> (try simp only [hb])) | (with_reducible refine And.intro (by first | omega | (simp; done) | (simp; omega)) ?_) | simp (maxSteps := 9999999) (implicitDefEqProofs := false) only [go_sem, hb, hg, e46, f1, bD, List.length_map] | fail))
          · have f1 : decide ((c.toNat : Int) < 48) = false := decide_eq_false (by omega)
            have f2 : decide ((c.toNat : Int) > 57) = true := decide_eq_true (by
              have : ¬ (48 ≤ c.toNat ∧ c.toNat ≤ 57) := fun h => hd (decide_eq_true h)
              omega)
            (repeat' (first | with_reducible (first | refine zA fun Kn hK => ?_ | refine zB (by kernel_rfl) ?_ | refine Nx.go ?_ | go_step) | fail | with_reducible (first | refine zI ?_ | refine zJ ?_ | refine zK ?_ ?_ | refine zL ?_ ?_ | refine zR (by kernel_rfl) ?_) | simp (maxSteps := 9999999) (disch := omega) only [wq] | (with_reducible refine zM (fun hb => ?_) (fun hb => ?_) <;> (try simp only [hb])) | (with_reducible refine And.intro (by first | omega | (simp; done) | (simp; omega)) ?_) | simp (maxSteps := 9999999) (implicitDefEqProofs := false) only [go_sem, hb, hg, e46, f1, f2, bD, List.length_map] | fail))
      · have hd2 : 48 ≤ c.toNat ∧ c.toNat ≤ 57 := of_decide_eq_true o1
        have f1 : decide ((c.toNat : Int) < 48) = false := decide_eq_false (by omega)
        have f2 : decide ((c.toNat : Int) > 57) = false := decide_eq_false (by omega)
        have f3 : ((ct : Int) == 15) = false := by rw [beq_eq_false_iff_ne]; omega
        cases st
        all_goals
          (repeat' (first | with_reducible (first | refine zA fun Kn hK => ?_ | refine zB (by kernel_rfl) ?_ | refine Nx.go ?_ | go_step) | fail | with_reducible (first | refine zI ?_ | refine zJ ?_ | refine zK ?_ ?_ | refine zL ?_ ?_ | refine zR (by kernel_rfl) ?_) | simp (maxSteps := 9999999) (disch := omega) only [wq] | (with_reducible refine zM (fun hb => ?_) (fun hb => ?_) <;> (try simp only [hb])) | (with_reducible refine And.intro (by first | omega | (simp; done) | (simp; omega)) ?_) | simp (maxSteps := 9999999) (implicitDefEqProofs := false) only [go_sem, hb, hg, e46, f1, f2, f3, bD, List.length_map] | fail))
          refine ⟨[], ⟨_, hI2⟩, ?_⟩
          (iterate 2 ((try simp (maxSteps := 9999999) (implicitDefEqProofs := false) only [go_sem, Bool.toNat_true, Bool.toNat_false]); (try simp (maxSteps := 9999999) (disch := omega) only [wq])))
          try (simp only [ijq, true_and, and_true]; first | done | omega | (split <;> omega) | (simp; done) | (simp; omega))
          try omega
  · have hb : decide (((1 + k : Nat) : Int) < (b.length : Int)) = false := decide_eq_false (by omega)
    (try simp only [Nat.zero_add] at hb)
    obtain rfl : k = l.length := by omega
    have hr := hI.r
    have hv := hI.v
    dsimp only at hr hv
    rw [List.drop_length] at hr hv
    by_cases h0' : ct = 0
    · have f3 : ((ct : Int) == 0) = true := by rw [h0']; rfl
      have hq : q = false := by rw [← hr, runN, h0']; rfl
      obtain rfl := hN hq
      subst hq
      (repeat' (first | with_reducible (first | refine zA fun Kn hK => ?_ | refine zB (by kernel_rfl) ?_ | refine Nx.go ?_ | go_step) | fail | with_reducible (first | refine zI ?_ | refine zJ ?_ | refine zK ?_ ?_ | refine zL ?_ ?_ | refine zR (by kernel_rfl) ?_) | simp (maxSteps := 9999999) (disch := omega) only [wq] | (with_reducible refine zM (fun hb => ?_) (fun hb => ?_) <;> (try simp only [hb])) | (with_reducible refine And.intro (by first | omega | (simp; done) | (simp; omega)) ?_) | simp (maxSteps := 9999999) (implicitDefEqProofs := false) only [go_sem, hb, f3] | fail))
    · have f3 : ((ct : Int) == 0) = false := by rw [beq_eq_false_iff_ne]; omega
      have hq : q = true := by rw [← hr, runN]; simpa using h0'
      have hv := hv hq
      rw [runV] at hv
      injection hv with hn hs
      subst hn hs
      obtain ⟨hS, rr, hdv, hout⟩ := hR hq
      have hout := hout.symm
      subst hout
      subst hq
      (repeat' (first | with_reducible (first | refine zA fun Kn hK => ?_ | refine zB (by kernel_rfl) ?_ | refine Nx.go ?_ | go_step) | fail | with_reducible (first | refine zI ?_ | refine zJ ?_ | refine zK ?_ ?_ | refine zL ?_ ?_ | refine zR (by kernel_rfl) ?_) | simp (maxSteps := 9999999) (disch := omega) only [wq] | (with_reducible refine zM (fun hb => ?_) (fun hb => ?_) <;> (try simp only [hb])) | (with_reducible refine And.intro (by first | omega | (simp; done) | (simp; omega)) ?_) | simp (maxSteps := 9999999) (implicitDefEqProofs := false) only [go_sem, hb, f3] | fail))
      refine sound_loopR (fun x : {j : Nat // j ≤ sc} => ⟨[(5, vI 1), (6, vI n), (7, vI sc), (12, vI ((10 ^ x.1 : Nat) : Int)), (13, vI x.1)], []⟩) (fun x => sc - x.1) ⟨0, Nat.zero_le _⟩ [] (by (iterate 2 ((try simp (maxSteps := 9999999) (implicitDefEqProofs := false) only [go_sem, true_and]); (try simp (maxSteps := 9999999) (disch := omega) only [wq]))); try simp) (fun ⟨j, hj⟩ => ?_)
      by_cases hjl : j < sc
      · have hb2 : decide ((j : Int) < (sc : Int)) = true := decide_eq_true (by omega)
        have hp : 10 ^ (j + 1) ≤ 10 ^ 15 := Nat.pow_le_pow_right (by omega) (by omega)
        have hp1 : 10 ^ (j + 1) = 10 * 10 ^ j := by rw [Nat.pow_succ, Nat.mul_comm]
        rw [hp1] at hp
        have hp2 : ((10 ^ (j + 1) : Nat) : Int) = 10 * ((10 ^ j : Nat) : Int) := by rw [hp1]; omega
        generalize 10 ^ j = T at *
        (repeat' (first | with_reducible (first | refine zA fun Kn hK => ?_ | refine zB (by kernel_rfl) ?_ | refine Nx.go ?_ | go_step) | fail | with_reducible (first | refine zI ?_ | refine zJ ?_ | refine zK ?_ ?_ | refine zL ?_ ?_ | refine zR (by kernel_rfl) ?_) | simp (maxSteps := 9999999) (disch := omega) only [wq] | (with_reducible refine zM (fun hb => ?_) (fun hb => ?_) <;> (try simp only [hb])) | (with_reducible refine And.intro (by first | omega | (simp; done) | (simp; omega)) ?_) | simp (maxSteps := 9999999) (implicitDefEqProofs := false) only [go_sem, hb2] | fail))
        refine ⟨[], ⟨j + 1, hjl⟩, ?_⟩
        (iterate 2 ((try simp (maxSteps := 9999999) (implicitDefEqProofs := false) only [go_sem, hp2]); (try simp (maxSteps := 9999999) (disch := omega) only [wq])))
        try (simp only [ijq, true_and, and_true]; first | done | omega | (split <;> omega) | (simp; done) | (simp; omega))
        try omega
      · have hb2 : decide ((j : Int) < (sc : Int)) = false := decide_eq_false (by omega)
        obtain rfl : j = sc := by omega
        have hT := tenI j (by omega)
        have hT2 : floatOfInt .f64 ((10 ^ j : Nat) : Int) = tenP.getD j 0 := by rw [← hT, Int.natCast_pow]; rfl
        generalize ((10 ^ j : Nat) : Int) = T at *
        have hi1 := fun (w : World) (s : TypeId) hs => run_i2f n w s 101 hs Tryz.underlying101
        have hi2 := fun (w : World) (s : TypeId) hs => run_i2f T w s 101 hs Tryz.underlying101
        rw [hT2] at hi2
        (repeat' (first | with_reducible (first | refine zA fun Kn hK => ?_ | refine zB (by kernel_rfl) ?_ | refine Nx.go ?_ | go_step) | (refine ⟨.float .f64 (floatOfInt .f64 n), ⟨rfl, fun w => hi1 w _ rfl⟩, ?_⟩) | (refine ⟨.float .f64 (tenP.getD j 0), ⟨rfl, fun w => hi2 w _ rfl⟩, ?_⟩) | (refine ⟨.float .f64 rr, ⟨rfl, fun w => run_quo hdv w _⟩, ?_⟩) | with_reducible (first | refine zI ?_ | refine zJ ?_ | refine zK ?_ ?_ | refine zL ?_ ?_ | refine zR (by kernel_rfl) ?_) | simp (maxSteps := 9999999) (disch := omega) only [wq] | (with_reducible refine zM (fun hb => ?_) (fun hb => ?_) <;> (try simp only [hb])) | (with_reducible refine And.intro (by first | omega | (simp; done) | (simp; omega)) ?_) | simp (maxSteps := 9999999) (implicitDefEqProofs := false) only [go_sem, hb2] | fail))
        try rfl
end
end Go.Proofs.YtbeghpkkpnbkgaaGreatDoor
/- Numbers: what the document gets; its order by numbers. -/
namespace Go.Proofs.YtbeghpkkpnbkgaaGreatDoor
open Go.RowKit
section
variable {G : Nat → Option (List D)}
theorem rnget_m (b : List UInt8) (hn : b.length ≤ 1000000000) (hnan : b ≠ wNan) : ∃ r, fOk r ∧ Spec Tryz.prog G 88 [.c (.sl b.length (b.map bD))] (.many [.c (fD r), .c (.v (.bool (numB b)))]) := by
  by_cases h1 : b = wInf
  · refine ⟨9218868437227405312, by unfold fOk; decide +kernel, ?_⟩
    have e : numB b = true := by simp [numB, h1]
    rw [e]
    exact rinf_m (.inl ⟨rfl, h1⟩)
  by_cases h2 : b = 45 :: wInf
  · refine ⟨18442240474082181120, by unfold fOk; decide +kernel, ?_⟩
    have e : numB b = true := by simp [numB, h2]
    rw [e]
    exact rinf_m (.inr ⟨rfl, h2⟩)
  have e : numB b = numBody (unsig b) := by simp [numB, h1, h2]
  rw [e, ← runN_body]
  unfold fD
  obtain ⟨N, S', hv⟩ : ∃ N S', runV (unsig b) false 0 0 = (N, S') := ⟨_, _, rfl⟩
  obtain ⟨a, ha, hbl, hat, h9⟩ : ∃ a, (a = 0 ∨ a = 1) ∧ b.length = a + (unsig b).length ∧ (∀ k, b[a + k]? = (unsig b)[k]?) ∧ (b = [] ∧ a = 0 ∨ ∃ x l, b = x :: l ∧ (x = 45 ∧ a = 1 ∨ x ≠ 45 ∧ a = 0)) := by
    cases b with
    | nil => exact ⟨0, .inl rfl, rfl, fun k => rfl, .inl ⟨rfl, rfl⟩⟩
    | cons x l =>
      by_cases hx : x = 45
      · subst hx
        refine ⟨1, .inr rfl, ?_, fun k => ?_, .inr ⟨45, l, rfl, .inl ⟨rfl, rfl⟩⟩⟩
        · simp [unsig]; omega
        · rw [Nat.add_comm]
          simp [unsig]
      · refine ⟨0, .inl rfl, ?_, fun k => ?_, .inr ⟨x, l, rfl, .inr ⟨hx, rfl⟩⟩⟩
        · simp [unsig, hx]
        · simp [unsig, hx]
  obtain ⟨out, hok, H⟩ : ∃ out, fOk out ∧ RH b (unsig b) a (runN (unsig b) true false 0) N S' out := by
    have hz := RInv.zero (l := unsig b) (N := N) (S := S') rfl (fun _ => hv)
    have t1 : (b == [105, 110, 102]) = false := by simpa [wInf] using h1
    have t2 : (b == [45, 105, 110, 102]) = false := by simpa [wInf] using h2
    have t3 : (b == [110, 97, 110]) = false := by simpa [wNan] using hnan
    cases hq : runN (unsig b) true false 0 with
    | false =>
      rw [hq] at hz
      exact ⟨0, by unfold fOk; decide +kernel, hz, hbl, hat, t1, t2, t3, hn, (fun h => by cases h), fun _ => rfl⟩
    | true =>
      rw [hq] at hz
      have hS := runV_le (unsig b) true false 0 0 0 hq (by omega) (by omega)
      rw [hv] at hS
      dsimp only at hS
      obtain ⟨M, J, hr, hne⟩ := tenP_num S' hS
      obtain ⟨r, hdv, hrk⟩ := div_ok (int_ok N) hr hne
      exact ⟨if a = 1 then Op.negFloat .f64 r else r, by split; exact neg_ok hrk; exact hrk, hz, hbl, hat, t1, t2, t3, hn, (fun _ => ⟨hS, r, hdv, rfl⟩), fun h => by cases h⟩
  refine ⟨out, hok, ?_⟩
  rcases h9 with ⟨hb, rfl⟩ | ⟨x, l, hb, hx⟩
  · exact rnum0_w H (by rw [hb]; rfl)
  · have hpos : 0 < b.length := by rw [hb]; simp
    have hg : decide ((b.length : Int) > 0) = true := decide_eq_true (by omega)
    have g0 : (b.map bD)[0]? = some (bD x) := by rw [hb]; rfl
    rcases hx with ⟨hx, rfl⟩ | ⟨hx, rfl⟩
    · exact rnumM_w H hg g0 (by rw [hx]; rfl) hpos
    · refine rnumP_w H hg g0 ?_ hpos
      rw [beq_eq_false_iff_ne]
      intro h
      exact hx (UInt8.toNat_inj.1 (by simpa using Int.ofNat.inj h))
theorem rfcmp_m {x : Nat} (h : fOk x) : Spec Tryz.prog G 89 [.c (fD x), .c (fD x)] (.many [iD 0, .c (.v (.bool true))]) := by
  obtain ⟨h1, h2, h3⟩ := fcmp h
  unfold fD iD at *
  refine spec_of Tryz.func89 rfl rfl rfl (by kernel_rfl) rfl fun K => ?_
  (repeat' (first | with_reducible (first | refine zA fun Kn hK => ?_ | refine zB (by kernel_rfl) ?_ | refine Nx.go ?_ | go_step) | (refine ⟨.bool false, ⟨rfl, fun w => rfl⟩, ?_⟩) | (refine ⟨.bool true, ⟨rfl, fun w => rfl⟩, ?_⟩) | with_reducible (first | refine zI ?_ | refine zJ ?_ | refine zK ?_ ?_ | refine zL ?_ ?_ | refine zR (by kernel_rfl) ?_) | simp (maxSteps := 9999999) (disch := omega) only [wq] | (with_reducible refine zM (fun hb => ?_) (fun hb => ?_) <;> (try simp only [hb])) | (with_reducible refine And.intro (by first | omega | (simp; done) | (simp; omega)) ?_) | simp (maxSteps := 9999999) (implicitDefEqProofs := false) only [go_sem, h1, h2, h3] | fail))
  try rfl
theorem rcomp_2 (b : List UInt8) (hn : b.length ≤ 1000000000) (hnan : b ≠ wNan) : Spec Tryz.prog G 80 [.c (bD 2), .c (.sl b.length (b.map bD)), .c (.sl b.length (b.map bD))] (.many [iD 0, .c (.v (.bool (numB b)))]) := by
  obtain ⟨r, hr, h⟩ := rnget_m (G := G) b hn hnan
  have hc := rfcmp_m (G := G) hr
  rw [show bD 2 = D.v (.int .u8 2) from rfl]
  generalize numB b = q at *
  generalize b.map bD = L at *
  generalize b.length = n at *
  unfold fD iD at *
  cases q
  all_goals
    refine spec_of Tryz.func80 rfl rfl rfl (by kernel_rfl) rfl fun K => ?_
    (repeat' (first | with_reducible (first | refine zA fun Kn hK => ?_ | refine zB (by kernel_rfl) ?_ | refine Nx.go ?_ | go_step) | (refine ⟨_, h, ?_⟩) | (refine ⟨_, hc, ?_⟩) | with_reducible (first | refine zI ?_ | refine zJ ?_ | refine zK ?_ ?_ | refine zL ?_ ?_ | refine zR (by kernel_rfl) ?_) | simp (maxSteps := 9999999) (disch := omega) only [wq] | (with_reducible refine zM (fun hb => ?_) (fun hb => ?_) <;> (try simp only [hb])) | (with_reducible refine And.intro (by first | omega | (simp; done) | (simp; omega)) ?_) | simp (maxSteps := 9999999) (implicitDefEqProofs := false) only [go_sem, decide_true] | fail))
    try rfl
end
end Go.Proofs.YtbeghpkkpnbkgaaGreatDoor
/- The document's order by numbers, of a text that is no number and itself: the walk. -/
namespace Go.Proofs.YtbeghpkkpnbkgaaGreatDoor
open Go.RowKit Ieee
theorem nan_none {x y : Nat} (h : (double.read x).isNaN = true) : double.order x y = none := by
  unfold Format.order
  generalize double.read x = d at *
  cases d with
  | nan _ _ => rfl
  | _ => cases h
theorem nan_cut (t : Nat) : (double.read ((t % 2) * 2 ^ 63 + 0x7ff0000000000000 + 1 + (t / 2) % (2 ^ 52 - 1))).isNaN = true := by
  have e2 : double.signWeight = 9223372036854775808 := by decide
  have e1 : double.infRung = 9218868437227405312 := by decide
  have e3 : double.binade = 4503599627370496 := by decide
  unfold Format.read
  simp only [e1, e2, e3]
  have hm : ((t % 2) * 2 ^ 63 + 0x7ff0000000000000 + 1 + (t / 2) % (2 ^ 52 - 1)) % 9223372036854775808 = 9218868437227405312 + 1 + (t / 2) % (2 ^ 52 - 1) := by
    have : (t / 2) % (2 ^ 52 - 1) < 2 ^ 52 - 1 := Nat.mod_lt _ (by decide)
    have := Nat.mod_two_eq_zero_or_one t
    omega
  rw [hm]
  rw [if_neg (by omega), if_neg (by omega), if_neg (by omega)]
  rfl
section
variable {P : Program}
theorem run_00 (w : World) (t : TypeId) : ∃ m, (double.read m).isNaN = true ∧ (binOp .quo t (.float .f64 0) (.float .f64 0)).run P w = .ok (.float .f64 m) w.drew := by
  have e : double.div 0 0 = none := by decide +kernel
  refine ⟨_, nan_cut (w.tape w.drawn (.nanBits .f64 0 0)), ?_⟩
  have e' : FloatKind.f64.format.div 0 0 = none := e
  simp [binOp, Op.floatArith, e', choose, Sem.run]
  rfl
end
theorem rget_nan (A : Option Addr) (c : Nat) (w : World) {S : Nat → Prop} (hs : Rep.u8.sl w S A 3 c wNan) : Calls Tryz.prog 88 #[.slice A 3 c] w fun e w' => ∃ m, (double.read m).isNaN = true ∧ e = .returned (.tuple #[.float .f64 m, .bool true]) ∧ w' = w.drew := by
  obtain ⟨m, hm, hq⟩ := run_00 (P := Tryz.prog) w 101
  have hx := conv_bs (P := Tryz.prog) Tryz.underlying24 Tryz.underlying5 Tryz.underlying9 hs
  clear hs
  go_enter Tryz.func88, Tryz.ntmps88
  go_wp2
  exact ⟨rfl, _, results_tmp2 rfl _ _ _, m, hm, rfl, rfl⟩
theorem rcmp_nan (w : World) {x y : Nat} (h : (double.read x).isNaN = true) : Calls Tryz.prog 89 #[.float .f64 x, .float .f64 y] w fun e w' => e = .returned (.tuple #[.int .i64 0, .bool false]) ∧ w' = w := by
  have ho := nan_none (y := y) h
  have ho' : FloatKind.f64.format.order x y = none := ho
  have q1 : ∀ w, (binOp .lss 101 (.float .f64 x) (.float .f64 y)).run Tryz.prog w = .ok (.bool false) w := fun w => by simp [binOp, Op.floatCmp, ho', Sem.run]; try rfl
  have q2 : ∀ w, (binOp .gtr 101 (.float .f64 x) (.float .f64 y)).run Tryz.prog w = .ok (.bool false) w := fun w => by simp [binOp, Op.floatCmp, ho', Sem.run]; try rfl
  have q3 : ∀ w, (binOp .eql 101 (.float .f64 x) (.float .f64 y)).run Tryz.prog w = .ok (.bool false) w := fun w => by simp [binOp, Op.floatCmp, ho', Sem.run]; try rfl
  go_enter Tryz.func89, Tryz.ntmps89
  go_wp2
  exact ⟨rfl, _, results_tmp2 rfl _ _ _, rfl, rfl⟩
theorem rcomp_nanw (A : Option Addr) (c : Nat) (A' : Option Addr) (c' : Nat) (w : World) {S S' : Nat → Prop} (hs : Rep.u8.sl w S A 3 c wNan) (hs' : Rep.u8.sl w S' A' 3 c' wNan) : Calls Tryz.prog 80 #[.int .u8 2, .slice A 3 c, .slice A' 3 c'] w fun e w' => e = .returned (.tuple #[.int .i64 0, .bool false]) ∧ w' = w.drew.drew := by
  go_enter Tryz.func80, Tryz.ntmps80
  go_wp2_with fail
  refine Calls.mono (rget_nan A c _ hs) ?_
  rintro _ _ ⟨m, hm, rfl, rfl⟩
  go_wp2_with fail
  refine Calls.mono (rget_nan A' c' _ (S := S') hs') ?_
  rintro _ _ ⟨m', hm', rfl, rfl⟩
  go_wp2_with fail
  refine Calls.mono (rcmp_nan _ hm) ?_
  rintro _ _ ⟨rfl, rfl⟩
  go_wp2
  exact ⟨rfl, _, results_tmp2 rfl _ _ _, rfl, rfl⟩
section
variable {G : Nat → Option (List D)}
theorem numB_nan : numB wNan = false := by decide +kernel
theorem rcomp_2n : Spec Tryz.prog G 80 [.c (bD 2), .c (.sl wNan.length (wNan.map bD)), .c (.sl wNan.length (wNan.map bD))] (.many [iD 0, .c (.v (.bool (numB wNan)))]) := by
  intro w S vs hS hT hA
  obtain ⟨hl, hc⟩ := hA
  match vs, hl with
  | [u, v, x], _ =>
    obtain ⟨A, c, rfl, hs⟩ := bytes_sl (l := wNan) (hc 1 _ _ rfl rfl) rfl
    obtain ⟨A', c', rfl, hs'⟩ := bytes_sl (l := wNan) (hc 2 _ _ rfl rfl) rfl
    have hv := hc 0 _ _ rfl rfl
    cases hv
    rename_i hv
    refine Calls.mono (rcomp_nanw A c A' c' w hs hs') ?_
    rintro _ _ ⟨rfl, rfl⟩
    refine ⟨⟨rfl, rfl, rfl, Nat.le_refl _, fun _ _ _ => rfl⟩, [_, _], rfl, rfl, fun i x v hx hv => ?_⟩
    rw [numB_nan] at hx
    match i with
    | 0 =>
      simp at hx hv
      subst hx hv
      exact .v _ rfl
    | 1 =>
      simp at hx hv
      subst hx hv
      exact .v _ rfl
    | i + 2 => simp at hx
end
end Go.Proofs.YtbeghpkkpnbkgaaGreatDoor
/- Whether a range may be. -/
namespace Go.Proofs.YtbeghpkkpnbkgaaGreatDoor
open Go.RowKit
section
variable {G : Nat → Option (List D)}
theorem mayR_w (o : UInt8) (lo hi : Bd) (p q : Bool) (h1 : Spec Tryz.prog G 86 [.c (bD o), .g (bdD lo)] (.one (.c (.v (.bool p))))) (h2 : Spec Tryz.prog G 86 [.c (bD o), .g (bdD hi)] (.one (.c (.v (.bool q))))) (F : D) (hF : ofD o = F) (hk : (∃ f, F = fnV f) ∨ ∃ f cs, F = .fn f cs) :
    Spec Tryz.prog G 77 [.g (bD o :: (bdD lo ++ bdD hi))] (.one (.c (.v (.bool (p && q))))) := by
  have ho := of_m (G := G) o
  rw [hF] at ho
  unfold bdD bD fnV at *
  rcases hk with ⟨f, rfl⟩ | ⟨f, cs, rfl⟩
  · refine spec_of Tryz.func77 rfl rfl rfl (by kernel_rfl) rfl fun K => ?_
    (repeat' (first | with_reducible (first | refine zA fun Kn hK => ?_ | refine zB (by kernel_rfl) ?_ | refine Nx.go ?_ | go_step) | (refine ⟨_, ho, ?_⟩) | (refine ⟨_, h1, ?_⟩) | (refine ⟨_, h2, ?_⟩) | with_reducible (first | refine zI ?_ | refine zJ ?_ | refine zK ?_ ?_ | refine zL ?_ ?_ | refine zR (by kernel_rfl) ?_) | simp (maxSteps := 9999999) (disch := omega) only [wq] | (with_reducible refine zM (fun hb => ?_) (fun hb => ?_) <;> (try simp only [hb])) | (with_reducible refine And.intro (by first | omega | (simp; done) | (simp; omega)) ?_) | simp (maxSteps := 9999999) (implicitDefEqProofs := false) only [go_sem, Bool.not_false] | fail))
    all_goals simp_all
  · refine spec_of Tryz.func77 rfl rfl rfl (by kernel_rfl) rfl fun K => ?_
    (repeat' (first | with_reducible (first | refine zA fun Kn hK => ?_ | refine zB (by kernel_rfl) ?_ | refine Nx.go ?_ | go_step) | (refine ⟨_, ho, ?_⟩) | (refine ⟨_, h1, ?_⟩) | (refine ⟨_, h2, ?_⟩) | with_reducible (first | refine zI ?_ | refine zJ ?_ | refine zK ?_ ?_ | refine zL ?_ ?_ | refine zR (by kernel_rfl) ?_) | simp (maxSteps := 9999999) (disch := omega) only [wq] | (with_reducible refine zM (fun hb => ?_) (fun hb => ?_) <;> (try simp only [hb])) | (with_reducible refine And.intro (by first | omega | (simp; done) | (simp; omega)) ?_) | simp (maxSteps := 9999999) (implicitDefEqProofs := false) only [go_sem, Bool.not_false] | fail))
    all_goals simp_all
theorem mayR_n (o : UInt8) (lo hi : Bd) (hF : ofD o = .v .nilFunc) : Spec Tryz.prog G 77 [.g (bD o :: (bdD lo ++ bdD hi))] (.one (.c (.v (.bool false)))) := by
  have ho := of_m (G := G) o
  rw [hF] at ho
  unfold bdD bD at *
  refine spec_of Tryz.func77 rfl rfl rfl (by kernel_rfl) rfl fun K => ?_
  (repeat' (first | with_reducible (first | refine zA fun Kn hK => ?_ | refine zB (by kernel_rfl) ?_ | refine Nx.go ?_ | go_step) | (refine ⟨_, ho, ?_⟩) | with_reducible (first | refine zI ?_ | refine zJ ?_ | refine zK ?_ ?_ | refine zL ?_ ?_ | refine zR (by kernel_rfl) ?_) | simp (maxSteps := 9999999) (disch := omega) only [wq] | (with_reducible refine zM (fun hb => ?_) (fun hb => ?_) <;> (try simp only [hb])) | (with_reducible refine And.intro (by first | omega | (simp; done) | (simp; omega)) ?_) | simp (maxSteps := 9999999) (implicitDefEqProofs := false) only [go_sem, Bool.not_true] | fail))
  all_goals try rfl
end
end Go.Proofs.YtbeghpkkpnbkgaaGreatDoor
/- Whether bytes are a value, and whether a range may be: both ways, in one plain law. -/
namespace Go.Proofs.YtbeghpkkpnbkgaaGreatDoor
open Go.RowKit
/-- Is it a value? -/
def isV (o : UInt8) (b : List UInt8) : Bool := isVP numB o b
section
variable {G : Nat → Option (List D)}
theorem rcomp_m (o : UInt8) (b : List UInt8) (hn : b.length ≤ 1000000000) : Spec Tryz.prog G 80 [.c (bD o), .c (.sl b.length (b.map bD)), .c (.sl b.length (b.map bD))] (.many [iD 0, .c (.v (.bool (isV o b)))]) := by
  unfold isV isVP
  by_cases c1 : o = 1
  · rw [if_pos c1, c1]
    exact rcomp_1 b hn
  rw [if_neg c1]
  by_cases c2 : o = 2
  · rw [if_pos c2, c2]
    by_cases hb : b = wNan
    · rw [hb]
      exact rcomp_2n
    · exact rcomp_2 b hn hb
  rw [if_neg c2]
  by_cases c3 : o = 3
  · rw [if_pos c3, c3, clock_eq]
    exact rcomp_3 b hn
  rw [if_neg c3]
  by_cases c4 : o = 4
  · rw [if_pos c4, c4]
    exact rcomp_4 b hn
  rw [if_neg c4]
  by_cases c5 : o = 5
  · rw [if_pos c5, c5, date_some]
    exact rcomp_5 b hn
  rw [if_neg c5]
  refine rcomp_0 o _ _ fun h => ?_
  have key : ∀ k : UInt8, o ≠ k → o.toNat ≠ k.toNat := fun k hk e => hk (UInt8.toNat_inj.1 e)
  have := key 1 c1
  have := key 2 c2
  have := key 3 c3
  have := key 4 c4
  have := key 5 c5
  simp at *
  omega
theorem ris_m (o : UInt8) (b : List UInt8) (hn : b.length ≤ 1000000000) : Spec Tryz.prog G 71 [.c (bD o), .c (.sl b.length (b.map bD))] (.one (.c (.v (.bool (isV o b))))) := by
  have h := rcomp_m (G := G) o b hn
  unfold iD bD at *
  generalize isV o b = q at *
  refine spec_of Tryz.func71 rfl rfl rfl (by kernel_rfl) rfl fun K => ?_
  (repeat' (first | with_reducible (first | refine zA fun Kn hK => ?_ | refine zB (by kernel_rfl) ?_ | refine Nx.go ?_ | go_step) | (refine ⟨_, h, ?_⟩) | with_reducible (first | refine zI ?_ | refine zJ ?_ | refine zK ?_ ?_ | refine zL ?_ ?_ | refine zR (by kernel_rfl) ?_) | simp (maxSteps := 9999999) (disch := omega) only [wq] | (with_reducible refine zM (fun hb => ?_) (fun hb => ?_) <;> (try simp only [hb])) | (with_reducible refine And.intro (by first | omega | (simp; done) | (simp; omega)) ?_) | simp (maxSteps := 9999999) (implicitDefEqProofs := false) only [go_sem, true_and] | fail))
  try rfl
theorem is_m (o : UInt8) (b : List UInt8) (hn : b.length ≤ 1000000000) : Spec Tryz.prog G 101 [.c (bD o), .c (.sl b.length (b.map bD))] (.one (.c (.v (.bool (isV o b))))) :=
  is_w o _ _ _ (compare_m (fun b hn => byF_m b hn) o b hn)
theorem mayE_eq (o : UInt8) (b : Bd) : (if b.is then isV o b.txt else !b.opn && decide (b.txt.length = 0)) = mayE isV o b := by
  unfold mayE
  congr 2
  cases b.txt <;> simp [emptyL]
theorem may11_m (o : UInt8) (lo hi : Bd) (h1 : lo.txt.length ≤ 1000000000) (h2 : hi.txt.length ≤ 1000000000) : Spec Tryz.prog G 77 [.g (bD o :: (bdD lo ++ bdD hi))] (.one (.c (.v (.bool (mayR isV o lo hi))))) := by
  have e1 := end_w (G := G) o lo (isV o lo.txt) h1 fun _ => is_m o lo.txt h1
  have e2 := end_w (G := G) o hi (isV o hi.txt) h2 fun _ => is_m o hi.txt h2
  rw [mayE_eq] at e1 e2
  unfold mayR
  by_cases c : 1 ≤ o.toNat ∧ o.toNat ≤ 5
  · rw [decide_eq_true c, Bool.true_and]
    refine mayR_w o lo hi _ _ e1 e2 _ rfl ?_
    have key : ∀ k : UInt8, o ≠ k → o.toNat ≠ k.toNat := fun k hk e => hk (UInt8.toNat_inj.1 e)
    unfold ofD
    split
    · exact .inl ⟨_, rfl⟩
    split
    · exact .inr ⟨_, _, rfl⟩
    split
    · exact .inr ⟨_, _, rfl⟩
    split
    · exact .inl ⟨_, rfl⟩
    split
    · exact .inr ⟨_, _, rfl⟩
    rename_i k1 k2 k3 k4 k5
    have := key 1 k1
    have := key 2 k2
    have := key 3 k3
    have := key 4 k4
    have := key 5 k5
    simp at *
    omega
  · rw [decide_eq_false c, Bool.false_and]
    refine mayR_n o lo hi ?_
    unfold ofD
    rw [if_neg (fun e => c (by rw [e]; decide)), if_neg (fun e => c (by rw [e]; decide)), if_neg (fun e => c (by rw [e]; decide)), if_neg (fun e => c (by rw [e]; decide)), if_neg (fun e => c (by rw [e]; decide))]
theorem rmay11_w (o : UInt8) (lo hi : Bd) (p q : Bool) (h1 : lo.is = true → Spec Tryz.prog G 71 [.c (bD o), .c (.sl lo.txt.length (lo.txt.map bD))] (.one (.c (.v (.bool p))))) (h2 : hi.is = true → Spec Tryz.prog G 71 [.c (bD o), .c (.sl hi.txt.length (hi.txt.map bD))] (.one (.c (.v (.bool q))))) :
    Spec Tryz.prog G 50 [.g (bD o :: (bdD lo ++ bdD hi))] (.one (.c (.v (.bool (decide (1 ≤ o.toNat ∧ o.toNat ≤ 5) && ((if lo.is then p else !lo.opn && decide (lo.txt.length = 0)) && (if hi.is then q else !hi.opn && decide (hi.txt.length = 0)))))))) := by
  obtain ⟨i, op, t⟩ := lo
  obtain ⟨i', op', t'⟩ := hi
  have e : ((t.length : Int) == 0) = decide (t.length = 0) := nbeq t.length 0
  have e' : ((t'.length : Int) == 0) = decide (t'.length = 0) := nbeq t'.length 0
  have g1 : decide ((o.toNat : Int) ≥ 1) = decide (1 ≤ o.toNat) := decide_eq_decide.2 (by omega)
  have g2 : decide ((o.toNat : Int) ≤ 5) = decide (o.toNat ≤ 5) := decide_eq_decide.2 (by omega)
  rw [show decide (1 ≤ o.toNat ∧ o.toNat ≤ 5) = (decide (1 ≤ o.toNat) && decide (o.toNat ≤ 5)) from Bool.decide_and _ _]
  unfold bdD bD at *
  dsimp only at *
  generalize decide (1 ≤ o.toNat) = a1 at *
  generalize decide (o.toNat ≤ 5) = a2 at *
  generalize t.map _ = L at *
  generalize t.length = n at *
  generalize t'.map _ = L' at *
  generalize t'.length = n' at *
  generalize decide (n = 0) = z at *
  generalize decide (n' = 0) = z' at *
  cases i <;> cases i'
  · clear h1 h2
    refine spec_of Tryz.func50 rfl rfl rfl (by kernel_rfl) rfl fun K => ?_
    (repeat' (first | with_reducible (first | refine zA fun Kn hK => ?_ | refine zB (by kernel_rfl) ?_ | refine Nx.go ?_ | go_step) | fail | with_reducible (first | refine zI ?_ | refine zJ ?_ | refine zK ?_ ?_ | refine zL ?_ ?_ | refine zR (by kernel_rfl) ?_) | simp (maxSteps := 9999999) (disch := omega) only [wq] | (with_reducible refine zM (fun hb => ?_) (fun hb => ?_) <;> (try simp only [hb])) | (with_reducible refine And.intro (by first | omega | (simp; done) | (simp; omega)) ?_) | simp (maxSteps := 9999999) (implicitDefEqProofs := false) only [go_sem, e, e', g1, g2] | fail))
    all_goals simp_all
  · clear h1
    have h2 := h2 rfl
    refine spec_of Tryz.func50 rfl rfl rfl (by kernel_rfl) rfl fun K => ?_
    (repeat' (first | with_reducible (first | refine zA fun Kn hK => ?_ | refine zB (by kernel_rfl) ?_ | refine Nx.go ?_ | go_step) | (refine ⟨_, h2, ?_⟩) | with_reducible (first | refine zI ?_ | refine zJ ?_ | refine zK ?_ ?_ | refine zL ?_ ?_ | refine zR (by kernel_rfl) ?_) | simp (maxSteps := 9999999) (disch := omega) only [wq] | (with_reducible refine zM (fun hb => ?_) (fun hb => ?_) <;> (try simp only [hb])) | (with_reducible refine And.intro (by first | omega | (simp; done) | (simp; omega)) ?_) | simp (maxSteps := 9999999) (implicitDefEqProofs := false) only [go_sem, e, e', g1, g2] | fail))
    all_goals simp_all
  · clear h2
    have h1 := h1 rfl
    refine spec_of Tryz.func50 rfl rfl rfl (by kernel_rfl) rfl fun K => ?_
    (repeat' (first | with_reducible (first | refine zA fun Kn hK => ?_ | refine zB (by kernel_rfl) ?_ | refine Nx.go ?_ | go_step) | (refine ⟨_, h1, ?_⟩) | with_reducible (first | refine zI ?_ | refine zJ ?_ | refine zK ?_ ?_ | refine zL ?_ ?_ | refine zR (by kernel_rfl) ?_) | simp (maxSteps := 9999999) (disch := omega) only [wq] | (with_reducible refine zM (fun hb => ?_) (fun hb => ?_) <;> (try simp only [hb])) | (with_reducible refine And.intro (by first | omega | (simp; done) | (simp; omega)) ?_) | simp (maxSteps := 9999999) (implicitDefEqProofs := false) only [go_sem, e, e', g1, g2] | fail))
    all_goals simp_all
  · have h1 := h1 rfl
    have h2 := h2 rfl
    refine spec_of Tryz.func50 rfl rfl rfl (by kernel_rfl) rfl fun K => ?_
    (repeat' (first | with_reducible (first | refine zA fun Kn hK => ?_ | refine zB (by kernel_rfl) ?_ | refine Nx.go ?_ | go_step) | (refine ⟨_, h1, ?_⟩) | (refine ⟨_, h2, ?_⟩) | with_reducible (first | refine zI ?_ | refine zJ ?_ | refine zK ?_ ?_ | refine zL ?_ ?_ | refine zR (by kernel_rfl) ?_) | simp (maxSteps := 9999999) (disch := omega) only [wq] | (with_reducible refine zM (fun hb => ?_) (fun hb => ?_) <;> (try simp only [hb])) | (with_reducible refine And.intro (by first | omega | (simp; done) | (simp; omega)) ?_) | simp (maxSteps := 9999999) (implicitDefEqProofs := false) only [go_sem, e, e', g1, g2] | fail))
    all_goals simp_all
theorem rmay11_m (o : UInt8) (lo hi : Bd) (h1 : lo.txt.length ≤ 1000000000) (h2 : hi.txt.length ≤ 1000000000) : Spec Tryz.prog G 50 [.g (bD o :: (bdD lo ++ bdD hi))] (.one (.c (.v (.bool (mayR isV o lo hi))))) := by
  have h := rmay11_w (G := G) o lo hi _ _ (fun _ => ris_m o lo.txt h1) (fun _ => ris_m o hi.txt h2)
  rw [mayE_eq, mayE_eq] at h
  exact h
end
end Go.Proofs.YtbeghpkkpnbkgaaGreatDoor
/- Tags: the document's Great, Same. -/
namespace Go.Proofs.YtbeghpkkpnbkgaaGreatDoor
open Go.RowKit
def Tg.great (t : Tg) (k : Nat) : Bool := decide ((60 : Int) < k) || decide ((700 : Int) < t.kids.length) || decide ((5000 : Int) < t.data.length) || rgGreat t.lo t.hi || (t.kids.attach.any fun x => Tg.great x.1 (k + 1)) || (((k : Int) == 0) && decide ((1000 : Int) < t.nodes))
termination_by SizeOf.sizeOf t
decreasing_by exact Tg.kid_lt x.2
theorem Tg.great_eq (t : Tg) (k : Nat) : t.great k = (decide ((60 : Int) < k) || decide ((700 : Int) < t.kids.length) || decide ((5000 : Int) < t.data.length) || rgGreat t.lo t.hi || t.kids.any (fun x => Tg.great x (k + 1)) || (((k : Int) == 0) && decide ((1000 : Int) < t.nodes))) := by
  rw [Tg.great]
  congr 2
  simp
section
variable {G : Nat → Option (List D)}
theorem great12_m : ∀ t : Tg, ∀ (cs : List D) (k : Nat), tagC t = cs → t.wt ≤ 1000000000 → k ≤ 61 → Spec Tryz.prog G 9 [.g cs, .c (.v (.int .i64 k))] (.one (.c (.v (.bool (t.great k))))) := Tg.ind fun t ih cs d hcs hw hd => by
  subst hcs
  have hg := rggreat_m (G := G) t.ord t.lo t.hi
  have hn := count_m (G := G) t _ rfl hw
  refine spec_of Tryz.func9 rfl rfl rfl (by kernel_rfl) rfl fun K => ?_
  rw [tagC_eq] at hn ⊢
  unfold rgD bD bytesD at *
  refine zA fun Kn hK => ?_
  refine zB (by kernel_rfl) ?_
  (iterate 2 ((try simp (maxSteps := 9999999) (implicitDefEqProofs := false) only [go_sem, true_and]); (try simp (maxSteps := 9999999) (disch := omega) only [wq])))
  refine hK _ ?_; clear hK; clear Kn
  refine zA fun Kn hK => ?_
  have hL : (decide ((60 : Int) < d) || decide ((700 : Int) < t.kids.length) || decide ((5000 : Int) < t.data.length) || rgGreat t.lo t.hi) = false → ∀ s, LessL (renK []) ⟨[(1, vI d), (2, vP 2 0)], [(2, some ⟨34, tagK t, true, false⟩)]⟩ (Fr0 Tryz.f9.ntmps) s → Kn s := by
    intro hf s hl
    refine hK _ (sound_lessR _ _ hl ?_)
    clear hK hl
    (repeat' (first | with_reducible (first | refine zA fun Kn hK => ?_ | refine zB (by kernel_rfl) ?_ | refine Nx.go ?_ | go_step) | fail | with_reducible (first | refine zI ?_ | refine zJ ?_ | refine zK ?_ ?_ | refine zL ?_ ?_ | refine zR (by kernel_rfl) ?_) | simp (maxSteps := 9999999) (disch := omega) only [wq] | (with_reducible refine zM (fun hb => ?_) (fun hb => ?_) <;> (try simp only [hb])) | (with_reducible refine And.intro (by first | omega | (simp; done) | (simp; omega)) ?_) | simp (maxSteps := 9999999) (implicitDefEqProofs := false) only [go_sem, bD] | fail))
    refine sound_loopR (fun x : {k : Nat // k ≤ t.kids.length ∧ (t.kids.take k).any (fun x => x.great (d + 1)) = false} => ⟨[(1, vI d), (2, vP 2 0), (27, vI t.kids.length), (28, vI x.1)], [(2, some ⟨34, tagK t, true, false⟩)]⟩) (fun x => t.kids.length - x.1) ⟨0, by simp⟩ [] (by (iterate 2 ((try simp (maxSteps := 9999999) (implicitDefEqProofs := false) only [go_sem, bD]); (try simp (maxSteps := 9999999) (disch := omega) only [wq]))); try simp) (fun ⟨k, hk, hall⟩ => ?_)
    have h5 := t.wt_kids
    have h6 : d ≤ 60 := by
      simp only [Bool.or_eq_false_iff, decide_eq_false_iff_not] at hf
      omega
    by_cases hlt : k < t.kids.length
    · obtain ⟨x, hx⟩ : ∃ x, t.kids[k]? = some x := ⟨_, List.getElem?_eq_getElem hlt⟩
      have hb : decide ((k : Int) < (t.kids.length : Int)) = true := by simpa using hlt
      have hm := List.mem_of_getElem? hx
      (repeat' (first | with_reducible (first | refine zA fun Kn hK => ?_ | refine zB (by kernel_rfl) ?_ | refine Nx.go ?_ | go_step) | (refine ⟨_, ih x hm _ (d + 1) rfl (by have := Tg.wt_kid hm; omega) (by omega), ?_⟩) | with_reducible (first | refine zI ?_ | refine zJ ?_ | refine zK ?_ ?_ | refine zL ?_ ?_ | refine zR (by kernel_rfl) ?_) | simp (maxSteps := 9999999) (disch := omega) only [wq] | (with_reducible refine zM (fun hb => ?_) (fun hb => ?_) <;> (try simp only [hb])) | (with_reducible refine And.intro (by first | omega | (simp; done) | (simp; omega)) ?_) | simp (maxSteps := 9999999) (implicitDefEqProofs := false) only [go_sem, hb, flat_at tagC_len hx] | fail))
      · rw [t.great_eq]
        have : t.kids.any (fun x => x.great (d + 1)) = true := List.any_eq_true.2 ⟨x, hm, by simp_all⟩
        rw [this]
        simp
      · refine ⟨[], ⟨k + 1, hlt, ?_⟩, ?_⟩
        · rw [List.take_add_one, hx]
          simp_all
        · (iterate 2 ((try simp (maxSteps := 9999999) (implicitDefEqProofs := false) only [go_sem, bD]); (try simp (maxSteps := 9999999) (disch := omega) only [wq])))
          (simp only [ijq, true_and, and_true]; first | done | omega | (split <;> omega) | (simp; done) | (simp; omega))
    · have hb : decide ((k : Int) < (t.kids.length : Int)) = false := by simpa using hlt
      obtain rfl : k = t.kids.length := by omega
      (repeat' (first | with_reducible (first | refine zA fun Kn hK => ?_ | refine zB (by kernel_rfl) ?_ | refine Nx.go ?_ | go_step) | (refine ⟨_, hn, ?_⟩) | with_reducible (first | refine zI ?_ | refine zJ ?_ | refine zK ?_ ?_ | refine zL ?_ ?_ | refine zR (by kernel_rfl) ?_) | simp (maxSteps := 9999999) (disch := omega) only [wq] | (with_reducible refine zM (fun hb => ?_) (fun hb => ?_) <;> (try simp only [hb])) | (with_reducible refine And.intro (by first | omega | (simp; done) | (simp; omega)) ?_) | simp (maxSteps := 9999999) (implicitDefEqProofs := false) only [go_sem, hb, bD] | fail))
      all_goals
        rw [List.take_length] at hall
        rw [t.great_eq, hf, hall]
        simp only [hb]
        rfl
  clear hK
  (repeat' (first | with_reducible (first | refine zA fun Kn hK => ?_ | refine zB (by kernel_rfl) ?_ | refine Nx.go ?_ | go_step) | (refine ⟨_, hg, ?_⟩) | (refine hL (by simp only [*]; rfl) _ ?_) | with_reducible (first | refine zI ?_ | refine zJ ?_ | refine zK ?_ ?_ | refine zL ?_ ?_ | refine zR (by kernel_rfl) ?_) | simp (maxSteps := 9999999) (disch := omega) only [wq] | (with_reducible refine zM (fun hb => ?_) (fun hb => ?_) <;> (try simp only [hb])) | (with_reducible refine And.intro (by first | omega | (simp; done) | (simp; omega)) ?_) | simp (maxSteps := 9999999) (implicitDefEqProofs := false) only [go_sem, gt_iff_lt, bD] | fail))
  all_goals (clear ih; first | (simp only [*]; done) | (rw [t.great_eq]; simp only [*]; rfl) | (rw [t.great_eq]; simp only [*]; simp; done))
noncomputable def Tg.same (t u : Tg) : Bool := @decide (t = u) (Classical.propDecidable _)
theorem tsame_t {t u : Tg} (h : t = u) : t.same u = true := by
  unfold Tg.same
  exact @decide_eq_true _ (Classical.propDecidable _) h
theorem tsame_f {t u : Tg} (h : t ≠ u) : t.same u = false := by
  unfold Tg.same
  exact @decide_eq_false _ (Classical.propDecidable _) h
theorem tsame_of {t u : Tg} (h : t.same u = true) : t = u := by
  refine Classical.byContradiction fun hn => ?_
  rw [tsame_f hn] at h
  cases h
theorem Tg.ext_iff {t u : Tg} : t = u ↔ t.kind = u.kind ∧ t.data = u.data ∧ (t.ord = u.ord ∧ t.lo = u.lo ∧ t.hi = u.hi) ∧ t.kids = u.kids := by
  constructor
  · rintro rfl
    exact ⟨rfl, rfl, ⟨rfl, rfl, rfl⟩, rfl⟩
  · cases t; cases u
    rintro ⟨h1, h2, ⟨h3, h4, h5⟩, h6⟩
    simp only [Tg.kind, Tg.data, Tg.ord, Tg.lo, Tg.hi, Tg.kids] at *
    subst h1 h2 h3 h4 h5 h6
    rfl
theorem rgSame_iff {o o' : UInt8} {a b a' b' : Bd} : rgSame o a b o' a' b' = true ↔ o = o' ∧ a = a' ∧ b = b' := by
  simp only [rgSame, Bool.and_eq_true, bdSame_iff, beq_iff_eq, and_assoc]
theorem same12_m : ∀ (t u : Tg) (cs ds : List D), tagC t = cs → tagC u = ds → t.wt ≤ 1000000000 → Spec Tryz.prog G 14 [.g cs, .g ds] (.one (.c (.v (.bool (t.same u))))) := Tg.ind fun t ih u cs ds hcs hds hw => by
  subst hcs hds
  have hr := rgsame_m (G := G) t.ord t.lo t.hi u.ord u.lo u.hi
  have hi := rgSame_iff (o := t.ord) (a := t.lo) (b := t.hi) (o' := u.ord) (a' := u.lo) (b' := u.hi)
  have he := u8_beq t.kind u.kind
  generalize rgSame t.ord t.lo t.hi u.ord u.lo u.hi = qr at *
  refine spec_of Tryz.func14 rfl rfl rfl (by kernel_rfl) rfl fun K => ?_
  rw [tagC_eq t, tagC_eq u]
  unfold rgD bD bytesD at *
  refine zA fun Kn hK => ?_
  refine zB (by kernel_rfl) ?_
  (iterate 2 ((try simp (maxSteps := 9999999) (implicitDefEqProofs := false) only [go_sem, true_and]); (try simp (maxSteps := 9999999) (disch := omega) only [wq])))
  refine hK _ ?_; clear hK; clear Kn
  refine zA fun Kn hK => ?_
  have hL : (t.kind = u.kind ∧ t.data = u.data ∧ qr = true ∧ t.kids.length = u.kids.length) → ∀ s, LessL (renK []) ⟨[(2, vP 2 0), (3, vP 3 0)], [(2, some ⟨34, tagK t, true, false⟩), (3, some ⟨34, tagK u, true, false⟩)]⟩ (Fr0 Tryz.f14.ntmps) s → Kn s := by
    intro hf s hl
    refine hK _ (sound_lessR _ _ hl ?_)
    clear hK hl
    (repeat' (first | with_reducible (first | refine zA fun Kn hK => ?_ | refine zB (by kernel_rfl) ?_ | refine Nx.go ?_ | go_step) | fail | with_reducible (first | refine zI ?_ | refine zJ ?_ | refine zK ?_ ?_ | refine zL ?_ ?_ | refine zR (by kernel_rfl) ?_) | simp (maxSteps := 9999999) (disch := omega) only [wq] | (with_reducible refine zM (fun hb => ?_) (fun hb => ?_) <;> (try simp only [hb])) | (with_reducible refine And.intro (by first | omega | (simp; done) | (simp; omega)) ?_) | simp (maxSteps := 9999999) (implicitDefEqProofs := false) only [go_sem, bD] | fail))
    refine sound_loopR (fun x : {k : Nat // k ≤ t.kids.length ∧ t.kids.take k = u.kids.take k} => ⟨[(2, vP 2 0), (3, vP 3 0), (39, vI t.kids.length), (40, vI x.1)], [(2, some ⟨34, tagK t, true, false⟩), (3, some ⟨34, tagK u, true, false⟩)]⟩) (fun x => t.kids.length - x.1) ⟨0, by simp⟩ [] (by (iterate 2 ((try simp (maxSteps := 9999999) (implicitDefEqProofs := false) only [go_sem, bD]); (try simp (maxSteps := 9999999) (disch := omega) only [wq]))); try simp) (fun ⟨k, hk, hall⟩ => ?_)
    have h5 := t.wt_kids
    by_cases hlt : k < t.kids.length
    · obtain ⟨x, hx⟩ : ∃ x, t.kids[k]? = some x := ⟨_, List.getElem?_eq_getElem hlt⟩
      obtain ⟨y, hy⟩ : ∃ y, u.kids[k]? = some y := ⟨_, List.getElem?_eq_getElem (by omega)⟩
      have hb : decide ((k : Int) < (t.kids.length : Int)) = true := by simpa using hlt
      have hm := List.mem_of_getElem? hx
      (repeat' (first | with_reducible (first | refine zA fun Kn hK => ?_ | refine zB (by kernel_rfl) ?_ | refine Nx.go ?_ | go_step) | (refine ⟨_, ih x hm y _ _ rfl rfl (by have := Tg.wt_kid hm; omega), ?_⟩) | with_reducible (first | refine zI ?_ | refine zJ ?_ | refine zK ?_ ?_ | refine zL ?_ ?_ | refine zR (by kernel_rfl) ?_) | simp (maxSteps := 9999999) (disch := omega) only [wq] | (with_reducible refine zM (fun hb => ?_) (fun hb => ?_) <;> (try simp only [hb])) | (with_reducible refine And.intro (by first | omega | (simp; done) | (simp; omega)) ?_) | simp (maxSteps := 9999999) (implicitDefEqProofs := false) only [go_sem, hb, bD, flat_at tagC_len hx, flat_at tagC_len hy] | fail))
      · refine ⟨[], ⟨k + 1, hlt, ?_⟩, ?_⟩
        · rw [List.take_add_one, List.take_add_one, hx, hy, hall, tsame_of hb]
        · (iterate 2 ((try simp (maxSteps := 9999999) (implicitDefEqProofs := false) only [go_sem, bD, or_false]); (try simp (maxSteps := 9999999) (disch := omega) only [wq])))
          (simp only [ijq, true_and, and_true]; first | done | omega | (split <;> omega) | (simp; done) | (simp; omega))
      · rw [tsame_f]
        rintro rfl
        rw [hx] at hy
        injection hy with hy
        rw [tsame_t hy] at hb
        cases hb
    · have hb : decide ((k : Int) < (t.kids.length : Int)) = false := by simpa using hlt
      obtain rfl : k = t.kids.length := by omega
      (repeat' (first | with_reducible (first | refine zA fun Kn hK => ?_ | refine zB (by kernel_rfl) ?_ | refine Nx.go ?_ | go_step) | fail | with_reducible (first | refine zI ?_ | refine zJ ?_ | refine zK ?_ ?_ | refine zL ?_ ?_ | refine zR (by kernel_rfl) ?_) | simp (maxSteps := 9999999) (disch := omega) only [wq] | (with_reducible refine zM (fun hb => ?_) (fun hb => ?_) <;> (try simp only [hb])) | (with_reducible refine And.intro (by first | omega | (simp; done) | (simp; omega)) ?_) | simp (maxSteps := 9999999) (implicitDefEqProofs := false) only [go_sem, hb, bD] | fail))
      rw [List.take_length, hf.2.2.2, List.take_length] at hall
      rw [tsame_t (Tg.ext_iff.2 ⟨hf.1, hf.2.1, hi.1 hf.2.2.1, hall⟩)]
  clear hK
  (repeat' (first | with_reducible (first | refine zA fun Kn hK => ?_ | refine zB (by kernel_rfl) ?_ | refine Nx.go ?_ | go_step) | (refine ⟨_, hr, ?_⟩) | (refine hL (by refine ⟨?_, ?_, ?_, ?_⟩ <;> first | (simp_all; done) | (simp_all; omega)) _ ?_) | with_reducible (first | refine zI ?_ | refine zJ ?_ | refine zK ?_ ?_ | refine zL ?_ ?_ | refine zR (by kernel_rfl) ?_) | simp (maxSteps := 9999999) (disch := omega) only [wq] | (with_reducible refine zM (fun hb => ?_) (fun hb => ?_) <;> (try simp only [hb])) | (with_reducible refine And.intro (by first | omega | (simp; done) | (simp; omega)) ?_) | simp (maxSteps := 9999999) (implicitDefEqProofs := false) only [go_sem, he, bD] | fail))
  all_goals first | (simp; done) | (rw [tsame_f]; rintro rfl; simp_all)
end
end Go.Proofs.YtbeghpkkpnbkgaaGreatDoor
/- Tags: the document's right. -/
namespace Go.Proofs.YtbeghpkkpnbkgaaGreatDoor
open Go.RowKit
theorem plain_same (t : Tg) : t.plain = rgSame t.ord t.lo t.hi 0 Bd.none Bd.none := by
  rw [Bool.eq_iff_iff, rgSame_iff]
  simp [Tg.plain]
theorem len0_empty {α : Type} (l : List α) : ((l.length : Int) == 0) = emptyL l := by
  cases l with
  | nil => rfl
  | cons a l =>
    rw [show emptyL (a :: l) = false from rfl, beq_eq_false_iff_ne]
    simp
    omega
section
variable {G : Nat → Option (List D)}
theorem rright12_m : ∀ t : Tg, ∀ cs : List D, tagC t = cs → t.wt ≤ 1000000000 → Spec Tryz.prog G 27 [.g cs] (.one (.c (.v (.bool (t.right isV))))) := Tg.ind fun t ih cs hcs hw => by
  subst hcs
  have hs := rgsame_m (G := G) t.ord t.lo t.hi 0 Bd.none Bd.none
  have hm := rmay11_m (G := G) t.ord t.lo t.hi (by rw [t.wt_eq] at hw; omega) (by rw [t.wt_eq] at hw; omega)
  obtain ⟨pl, hpl⟩ : ∃ pl, rgSame t.ord t.lo t.hi 0 Bd.none Bd.none = pl := ⟨_, rfl⟩
  obtain ⟨mr, hmr⟩ : ∃ mr, mayR isV t.ord t.lo t.hi = mr := ⟨_, rfl⟩
  rw [hpl] at hs
  rw [hmr] at hm
  have h1 := t.right_eq isV
  refine spec_of Tryz.func27 rfl rfl rfl (by kernel_rfl) rfl fun K => ?_
  rw [tagC_eq]
  unfold rgD bdD bD bytesD at *
  refine zA fun Kn hK => ?_
  refine zB (by kernel_rfl) ?_
  (iterate 2 ((try simp (maxSteps := 9999999) (implicitDefEqProofs := false) only [go_sem, true_and]); (try simp (maxSteps := 9999999) (disch := omega) only [wq])))
  refine hK _ ?_; clear hK; clear Kn
  refine zA fun Kn hK => ?_
  have HK := Lib.hid hK
  clear hK
  (repeat' (first | with_reducible (first | refine zA fun Kn hK => ?_ | refine zB (by kernel_rfl) ?_ | refine Nx.go ?_ | go_step) | (refine ⟨_, hs, ?_⟩) | with_reducible (first | refine zI ?_ | refine zJ ?_ | refine zK ?_ ?_ | refine zL ?_ ?_ | refine zR (by kernel_rfl) ?_) | simp (maxSteps := 9999999) (disch := omega) only [wq] | (with_reducible refine zM (fun hb => ?_) (fun hb => ?_) <;> (try simp only [hb])) | (with_reducible refine And.intro (by first | omega | (simp; done) | (simp; omega)) ?_) | simp (maxSteps := 9999999) (implicitDefEqProofs := false) only [go_sem, bD] | fail))
  refine HK.out _ ?_; clear HK; clear Kn
  refine zA fun Kn hK => ?_
  refine zB (by kernel_rfl) ?_
  (iterate 2 ((try simp (maxSteps := 9999999) (implicitDefEqProofs := false) only [go_sem, true_and]); (try simp (maxSteps := 9999999) (disch := omega) only [wq])))
  refine hK _ ?_; clear hK; clear Kn
  refine zA fun Kn hK => ?_
  have hL : ∀ q, t.right isV = (q && t.kids.all (Tg.right isV)) → ∀ s, LessL (renK []) ⟨[(1, vP 1 0), (4, vB q)], [(1, some ⟨34, tagK t, true, false⟩)]⟩ (Fr0 Tryz.f27.ntmps) s → Kn s := by
    intro q hf s hl
    refine hK _ (sound_lessR _ _ hl ?_)
    clear hK hl
    (repeat' (first | with_reducible (first | refine zA fun Kn hK => ?_ | refine zB (by kernel_rfl) ?_ | refine Nx.go ?_ | go_step) | fail | with_reducible (first | refine zI ?_ | refine zJ ?_ | refine zK ?_ ?_ | refine zL ?_ ?_ | refine zR (by kernel_rfl) ?_) | simp (maxSteps := 9999999) (disch := omega) only [wq] | (with_reducible refine zM (fun hb => ?_) (fun hb => ?_) <;> (try simp only [hb])) | (with_reducible refine And.intro (by first | omega | (simp; done) | (simp; omega)) ?_) | simp (maxSteps := 9999999) (implicitDefEqProofs := false) only [go_sem, bD] | fail))
    refine sound_loopR (fun x : {k : Nat // k ≤ t.kids.length} => ⟨[(1, vP 1 0), (4, vB (q && (t.kids.take x.1).all (Tg.right isV))), (97, vI t.kids.length), (98, vI x.1)], [(1, some ⟨34, tagK t, true, false⟩)]⟩) (fun x => t.kids.length - x.1) ⟨0, by simp⟩ [] (by (iterate 2 ((try simp (maxSteps := 9999999) (implicitDefEqProofs := false) only [go_sem, bD]); (try simp (maxSteps := 9999999) (disch := omega) only [wq]))); try simp) (fun ⟨k, hk⟩ => ?_)
    have h5 := t.wt_kids
    by_cases hlt : k < t.kids.length
    · obtain ⟨x, hx⟩ : ∃ x, t.kids[k]? = some x := ⟨_, List.getElem?_eq_getElem hlt⟩
      have hb : decide ((k : Int) < (t.kids.length : Int)) = true := by simpa using hlt
      have hm := List.mem_of_getElem? hx
      have e : (q && (t.kids.take (k + 1)).all (Tg.right isV)) = ((q && (t.kids.take k).all (Tg.right isV)) && x.right isV) := by
        rw [List.take_add_one, hx, List.all_append, Bool.and_assoc]
        simp
      generalize (q && (t.kids.take k).all (Tg.right isV)) = r at *
      cases r with
      | true =>
        (repeat' (first | with_reducible (first | refine zA fun Kn hK => ?_ | refine zB (by kernel_rfl) ?_ | refine Nx.go ?_ | go_step) | (refine ⟨_, ih x hm _ rfl (by have := Tg.wt_kid hm; omega), ?_⟩) | with_reducible (first | refine zI ?_ | refine zJ ?_ | refine zK ?_ ?_ | refine zL ?_ ?_ | refine zR (by kernel_rfl) ?_) | simp (maxSteps := 9999999) (disch := omega) only [wq] | (with_reducible refine zM (fun hb => ?_) (fun hb => ?_) <;> (try simp only [hb])) | (with_reducible refine And.intro (by first | omega | (simp; done) | (simp; omega)) ?_) | simp (maxSteps := 9999999) (implicitDefEqProofs := false) only [go_sem, hb, flat_at tagC_len hx] | fail))
        refine ⟨[], ⟨k + 1, hlt⟩, ?_⟩
        rw [e]
        (iterate 2 ((try simp (maxSteps := 9999999) (implicitDefEqProofs := false) only [go_sem, bD, Bool.true_and]); (try simp (maxSteps := 9999999) (disch := omega) only [wq])))
        (simp only [ijq, true_and, and_true]; first | done | omega | (split <;> omega) | (simp; done) | (simp; omega))
      | false =>
        (repeat' (first | with_reducible (first | refine zA fun Kn hK => ?_ | refine zB (by kernel_rfl) ?_ | refine Nx.go ?_ | go_step) | fail | with_reducible (first | refine zI ?_ | refine zJ ?_ | refine zK ?_ ?_ | refine zL ?_ ?_ | refine zR (by kernel_rfl) ?_) | simp (maxSteps := 9999999) (disch := omega) only [wq] | (with_reducible refine zM (fun hb => ?_) (fun hb => ?_) <;> (try simp only [hb])) | (with_reducible refine And.intro (by first | omega | (simp; done) | (simp; omega)) ?_) | simp (maxSteps := 9999999) (implicitDefEqProofs := false) only [go_sem, hb, flat_at tagC_len hx] | fail))
        refine ⟨[], ⟨k + 1, hlt⟩, ?_⟩
        rw [e]
        (iterate 2 ((try simp (maxSteps := 9999999) (implicitDefEqProofs := false) only [go_sem, bD, Bool.false_and]); (try simp (maxSteps := 9999999) (disch := omega) only [wq])))
        (simp only [ijq, true_and, and_true]; first | done | omega | (split <;> omega) | (simp; done) | (simp; omega))
    · have hb : decide ((k : Int) < (t.kids.length : Int)) = false := by simpa using hlt
      obtain rfl : k = t.kids.length := by omega
      rw [List.take_length, ← hf]
      (repeat' (first | with_reducible (first | refine zA fun Kn hK => ?_ | refine zB (by kernel_rfl) ?_ | refine Nx.go ?_ | go_step) | fail | with_reducible (first | refine zI ?_ | refine zJ ?_ | refine zK ?_ ?_ | refine zL ?_ ?_ | refine zR (by kernel_rfl) ?_) | simp (maxSteps := 9999999) (disch := omega) only [wq] | (with_reducible refine zM (fun hb => ?_) (fun hb => ?_) <;> (try simp only [hb])) | (with_reducible refine And.intro (by first | omega | (simp; done) | (simp; omega)) ?_) | simp (maxSteps := 9999999) (implicitDefEqProofs := false) only [go_sem, hb, bD] | fail))
      try rfl
  clear hK
  clear hs
  have hp := plain_same t
  rw [hpl] at hp
  have ed := len0_empty t.data
  have ek := len0_empty t.kids
  have key : ∀ k : UInt8, ((t.kind.toNat : Int) == (k.toNat : Int)) = decide (t.kind = k) := fun k => by rw [u8_beq]; exact Bool.beq_eq_decide_eq _ _
  have e1 : ((t.kind.toNat : Int) == 1) = decide (t.kind = 1) := key 1
  have e2 : ((t.kind.toNat : Int) == 2) = decide (t.kind = 2) := key 2
  have e3 : ((t.kind.toNat : Int) == 3) = decide (t.kind = 3) := key 3
  have e4 : ((t.kind.toNat : Int) == 4) = decide (t.kind = 4) := key 4
  have e5 : ((t.kind.toNat : Int) == 5) = decide (t.kind = 5) := key 5
  have e6 : ((t.kind.toNat : Int) == 6) = decide (t.kind = 6) := key 6
  clear key
  by_cases c1 : t.kind = 1
  · have hq : t.ok isV = (pl && (emptyL t.data && emptyL t.kids)) := by simp [Tg.ok, Tg.blank, c1, hp, Tg.starL]
    rw [decide_eq_true c1] at e1
    rw [hq] at h1
    generalize emptyL t.data = zd at *
    generalize emptyL t.kids = zk at *
    (repeat' (first | with_reducible (first | refine zA fun Kn hK => ?_ | refine zB (by kernel_rfl) ?_ | refine Nx.go ?_ | go_step) | (refine hL _ h1 _ ?_) | with_reducible (first | refine zI ?_ | refine zJ ?_ | refine zK ?_ ?_ | refine zL ?_ ?_ | refine zR (by kernel_rfl) ?_) | simp (maxSteps := 9999999) (disch := omega) only [wq] | (with_reducible refine zM (fun hb => ?_) (fun hb => ?_) <;> (try simp only [hb])) | (with_reducible refine And.intro (by first | omega | (simp; done) | (simp; omega)) ?_) | simp (maxSteps := 9999999) (implicitDefEqProofs := false) only [go_sem, e1, ed, ek, bD] | fail))
    all_goals simp_all
  rw [decide_eq_false c1] at e1
  by_cases c2 : t.kind = 2
  · have hq : t.ok isV = (pl && emptyL t.kids) := by simp [Tg.ok, Tg.blank, c2, hp, Tg.starL]
    rw [decide_eq_true c2] at e2
    rw [hq] at h1
    generalize emptyL t.kids = zk at *
    (repeat' (first | with_reducible (first | refine zA fun Kn hK => ?_ | refine zB (by kernel_rfl) ?_ | refine Nx.go ?_ | go_step) | (refine hL _ h1 _ ?_) | with_reducible (first | refine zI ?_ | refine zJ ?_ | refine zK ?_ ?_ | refine zL ?_ ?_ | refine zR (by kernel_rfl) ?_) | simp (maxSteps := 9999999) (disch := omega) only [wq] | (with_reducible refine zM (fun hb => ?_) (fun hb => ?_) <;> (try simp only [hb])) | (with_reducible refine And.intro (by first | omega | (simp; done) | (simp; omega)) ?_) | simp (maxSteps := 9999999) (implicitDefEqProofs := false) only [go_sem, e1, e2, ek, bD] | fail))
    all_goals simp_all
  rw [decide_eq_false c2] at e2
  by_cases c5 : t.kind = 5
  · have hq : t.ok isV = (pl && emptyL t.kids) := by simp [Tg.ok, Tg.blank, c5, hp, Tg.starL]
    rw [decide_eq_true c5] at e5
    rw [hq] at h1
    generalize emptyL t.kids = zk at *
    (repeat' (first | with_reducible (first | refine zA fun Kn hK => ?_ | refine zB (by kernel_rfl) ?_ | refine Nx.go ?_ | go_step) | (refine hL _ h1 _ ?_) | with_reducible (first | refine zI ?_ | refine zJ ?_ | refine zK ?_ ?_ | refine zL ?_ ?_ | refine zR (by kernel_rfl) ?_) | simp (maxSteps := 9999999) (disch := omega) only [wq] | (with_reducible refine zM (fun hb => ?_) (fun hb => ?_) <;> (try simp only [hb])) | (with_reducible refine And.intro (by first | omega | (simp; done) | (simp; omega)) ?_) | simp (maxSteps := 9999999) (implicitDefEqProofs := false) only [go_sem, e1, e2, e5, ek, bD] | fail))
    all_goals simp_all
  rw [decide_eq_false c5] at e5
  by_cases c4 : t.kind = 4
  · have hq : t.ok isV = (pl && emptyL t.data) := by simp [Tg.ok, Tg.blank, c4, hp, Tg.starL]
    have c3 : t.kind ≠ 3 := by rw [c4]; decide
    rw [decide_eq_false c3] at e3
    rw [decide_eq_true c4] at e4
    rw [hq] at h1
    generalize emptyL t.data = zd at *
    (repeat' (first | with_reducible (first | refine zA fun Kn hK => ?_ | refine zB (by kernel_rfl) ?_ | refine Nx.go ?_ | go_step) | (refine hL _ h1 _ ?_) | with_reducible (first | refine zI ?_ | refine zJ ?_ | refine zK ?_ ?_ | refine zL ?_ ?_ | refine zR (by kernel_rfl) ?_) | simp (maxSteps := 9999999) (disch := omega) only [wq] | (with_reducible refine zM (fun hb => ?_) (fun hb => ?_) <;> (try simp only [hb])) | (with_reducible refine And.intro (by first | omega | (simp; done) | (simp; omega)) ?_) | simp (maxSteps := 9999999) (implicitDefEqProofs := false) only [go_sem, e1, e2, e3, e4, e5, ed, bD] | fail))
    all_goals simp_all
  rw [decide_eq_false c4] at e4
  by_cases c6 : t.kind = 6
  · have hq : t.ok isV = (mr && (emptyL t.data && emptyL t.kids)) := by simp [Tg.ok, Tg.blank, c6, hmr, Tg.starL]
    have c3 : t.kind ≠ 3 := by rw [c6]; decide
    rw [decide_eq_false c3] at e3
    rw [decide_eq_true c6] at e6
    rw [hq] at h1
    generalize emptyL t.data = zd at *
    generalize emptyL t.kids = zk at *
    (repeat' (first | with_reducible (first | refine zA fun Kn hK => ?_ | refine zB (by kernel_rfl) ?_ | refine Nx.go ?_ | go_step) | (refine ⟨_, hm, ?_⟩) | (refine hL _ h1 _ ?_) | with_reducible (first | refine zI ?_ | refine zJ ?_ | refine zK ?_ ?_ | refine zL ?_ ?_ | refine zR (by kernel_rfl) ?_) | simp (maxSteps := 9999999) (disch := omega) only [wq] | (with_reducible refine zM (fun hb => ?_) (fun hb => ?_) <;> (try simp only [hb])) | (with_reducible refine And.intro (by first | omega | (simp; done) | (simp; omega)) ?_) | simp (maxSteps := 9999999) (implicitDefEqProofs := false) only [go_sem, e1, e2, e3, e4, e5, e6, ed, ek, bD] | fail))
    all_goals simp_all
  rw [decide_eq_false c6] at e6
  by_cases c3 : t.kind = 3
  · have hq : t.ok isV = (pl && emptyL t.data && !headA t.kids) := by simp [Tg.ok, Tg.blank, c3, hp, Tg.starL]
    rw [decide_eq_true c3] at e3
    rw [hq] at h1
    by_cases hk : t.kids = []
    · have hh : headA t.kids = false := by rw [hk]; rfl
      have ek : ((t.kids.length : Int) == 0) = true := by rw [hk]; rfl
      clear hk
      rw [hh] at h1
      generalize emptyL t.data = zd at *
      (repeat' (first | with_reducible (first | refine zA fun Kn hK => ?_ | refine zB (by kernel_rfl) ?_ | refine Nx.go ?_ | go_step) | (refine hL _ h1 _ ?_) | with_reducible (first | refine zI ?_ | refine zJ ?_ | refine zK ?_ ?_ | refine zL ?_ ?_ | refine zR (by kernel_rfl) ?_) | simp (maxSteps := 9999999) (disch := omega) only [wq] | (with_reducible refine zM (fun hb => ?_) (fun hb => ?_) <;> (try simp only [hb])) | (with_reducible refine And.intro (by first | omega | (simp; done) | (simp; omega)) ?_) | simp (maxSteps := 9999999) (implicitDefEqProofs := false) only [go_sem, e1, e2, e3, e5, ed, ek, bD] | fail))
      all_goals simp_all
    · obtain ⟨x, l, hk⟩ := List.exists_cons_of_ne_nil hk
      have hh : headA t.kids = (decide (x.kind = 2) && decide (x.data = wStar)) := by rw [hk]; rfl
      have ek : ((t.kids.length : Int) == 0) = false := by rw [len0_empty, hk]; rfl
      have hl : (0 : Int) < (t.kids.length : Int) := by rw [hk, List.length_cons]; omega
      have hl2 : 0 < t.kids.length := by omega
      have hx : t.kids[0]? = some x := by rw [hk]; rfl
      have f2 : ((x.kind.toNat : Int) == 2) = decide (x.kind = 2) := by
        have : ((x.kind.toNat : Int) == ((2 : UInt8).toNat : Int)) = decide (x.kind = 2) := by rw [u8_beq]; exact Bool.beq_eq_decide_eq _ _
        exact this
      have f3 : (x.data == [42]) = decide (x.data = wStar) := Bool.beq_eq_decide_eq _ _
      clear hk
      rw [hh] at h1
      have hF := flat_at (f := tagC) tagC_len hx
      simp only [Nat.zero_mul, List.drop_zero] at hF
      have kk : ∀ i, i < 10 → (t.kids.flatMap tagC)[i]? = (tagC x)[i]? := fun i hi => by rw [← hF, List.getElem?_take, if_pos hi]
      have g0 := kk 0 (by omega)
      have g1 := kk 1 (by omega)
      clear kk
      rw [tagC_eq] at g0 g1
      simp only [List.getElem?_cons_zero, List.getElem?_cons_succ, bD, bytesD] at g0 g1
      generalize emptyL t.data = zd at *
      generalize decide (x.kind = 2) = y1 at *
      generalize decide (x.data = wStar) = y2 at *
      (repeat' (first | with_reducible (first | refine zA fun Kn hK => ?_ | refine zB (by kernel_rfl) ?_ | refine Nx.go ?_ | go_step) | (refine ⟨x.data, ?_⟩) | (refine hL _ h1 _ ?_) | with_reducible (first | refine zI ?_ | refine zJ ?_ | refine zK ?_ ?_ | refine zL ?_ ?_ | refine zR (by kernel_rfl) ?_) | simp (maxSteps := 9999999) (disch := omega) only [wq] | (with_reducible refine zM (fun hb => ?_) (fun hb => ?_) <;> (try simp only [hb])) | (with_reducible refine And.intro (by first | omega | (simp; done) | (simp; omega)) ?_) | simp (maxSteps := 9999999) (implicitDefEqProofs := false) only [go_sem, e1, e2, e3, e5, ed, ek, hl, hl2, true_and, g0, g1, f2, f3, bne, bD] | fail))
      all_goals simp_all
  · rw [decide_eq_false c3] at e3
    have hq : t.ok isV = false := by simp [Tg.ok, Tg.blank, c1, c2, c3, c4, c5, c6]
    rw [hq] at h1
    (repeat' (first | with_reducible (first | refine zA fun Kn hK => ?_ | refine zB (by kernel_rfl) ?_ | refine Nx.go ?_ | go_step) | (refine hL _ h1 _ ?_) | with_reducible (first | refine zI ?_ | refine zJ ?_ | refine zK ?_ ?_ | refine zL ?_ ?_ | refine zR (by kernel_rfl) ?_) | simp (maxSteps := 9999999) (disch := omega) only [wq] | (with_reducible refine zM (fun hb => ?_) (fun hb => ?_) <;> (try simp only [hb])) | (with_reducible refine And.intro (by first | omega | (simp; done) | (simp; omega)) ?_) | simp (maxSteps := 9999999) (implicitDefEqProofs := false) only [go_sem, e1, e2, e3, e4, e5, e6, bD] | fail))
    all_goals simp_all
end
end Go.Proofs.YtbeghpkkpnbkgaaGreatDoor
/- Tags: the document's name, bound. -/
namespace Go.Proofs.YtbeghpkkpnbkgaaGreatDoor
open Go.RowKit
section
variable {G : Nat → Option (List D)}
theorem rname_m (o : UInt8) (h : 1 ≤ o.toNat ∧ o.toNat ≤ 5) : Spec Tryz.prog G 29 [.c (bD o)] (.one (.c (.v (.string ⟨(ordN o).toArray⟩)))) := by
  unfold bD ordN
  obtain ⟨k, hk⟩ : ∃ k, o.toNat = k := ⟨_, rfl⟩
  rw [hk] at h ⊢
  match k, h with
  | 1, _ =>
    have d : decide (((1 : Nat) : Int) > 5) = false := by decide
    refine spec_of Tryz.func29 rfl rfl rfl (by kernel_rfl) rfl fun K => ?_
    (repeat' (first | with_reducible (first | refine zA fun Kn hK => ?_ | refine zB (by kernel_rfl) ?_ | refine Nx.go ?_ | go_step) | fail | with_reducible (first | refine zI ?_ | refine zJ ?_ | refine zK ?_ ?_ | refine zL ?_ ?_ | refine zR (by kernel_rfl) ?_) | simp (maxSteps := 9999999) (disch := omega) only [wq] | (with_reducible refine zM (fun hb => ?_) (fun hb => ?_) <;> (try simp only [hb])) | (with_reducible refine And.intro (by first | omega | (simp; done) | (simp; omega)) ?_) | simp (maxSteps := 9999999) (implicitDefEqProofs := false) only [go_sem, d] | fail))
    try rfl
  | 2, _ =>
    have d : decide (((2 : Nat) : Int) > 5) = false := by decide
    refine spec_of Tryz.func29 rfl rfl rfl (by kernel_rfl) rfl fun K => ?_
    (repeat' (first | with_reducible (first | refine zA fun Kn hK => ?_ | refine zB (by kernel_rfl) ?_ | refine Nx.go ?_ | go_step) | fail | with_reducible (first | refine zI ?_ | refine zJ ?_ | refine zK ?_ ?_ | refine zL ?_ ?_ | refine zR (by kernel_rfl) ?_) | simp (maxSteps := 9999999) (disch := omega) only [wq] | (with_reducible refine zM (fun hb => ?_) (fun hb => ?_) <;> (try simp only [hb])) | (with_reducible refine And.intro (by first | omega | (simp; done) | (simp; omega)) ?_) | simp (maxSteps := 9999999) (implicitDefEqProofs := false) only [go_sem, d] | fail))
    try rfl
  | 3, _ =>
    have d : decide (((3 : Nat) : Int) > 5) = false := by decide
    refine spec_of Tryz.func29 rfl rfl rfl (by kernel_rfl) rfl fun K => ?_
    (repeat' (first | with_reducible (first | refine zA fun Kn hK => ?_ | refine zB (by kernel_rfl) ?_ | refine Nx.go ?_ | go_step) | fail | with_reducible (first | refine zI ?_ | refine zJ ?_ | refine zK ?_ ?_ | refine zL ?_ ?_ | refine zR (by kernel_rfl) ?_) | simp (maxSteps := 9999999) (disch := omega) only [wq] | (with_reducible refine zM (fun hb => ?_) (fun hb => ?_) <;> (try simp only [hb])) | (with_reducible refine And.intro (by first | omega | (simp; done) | (simp; omega)) ?_) | simp (maxSteps := 9999999) (implicitDefEqProofs := false) only [go_sem, d] | fail))
    try rfl
  | 4, _ =>
    have d : decide (((4 : Nat) : Int) > 5) = false := by decide
    refine spec_of Tryz.func29 rfl rfl rfl (by kernel_rfl) rfl fun K => ?_
    (repeat' (first | with_reducible (first | refine zA fun Kn hK => ?_ | refine zB (by kernel_rfl) ?_ | refine Nx.go ?_ | go_step) | fail | with_reducible (first | refine zI ?_ | refine zJ ?_ | refine zK ?_ ?_ | refine zL ?_ ?_ | refine zR (by kernel_rfl) ?_) | simp (maxSteps := 9999999) (disch := omega) only [wq] | (with_reducible refine zM (fun hb => ?_) (fun hb => ?_) <;> (try simp only [hb])) | (with_reducible refine And.intro (by first | omega | (simp; done) | (simp; omega)) ?_) | simp (maxSteps := 9999999) (implicitDefEqProofs := false) only [go_sem, d] | fail))
    try rfl
  | 5, _ =>
    have d : decide (((5 : Nat) : Int) > 5) = false := by decide
    refine spec_of Tryz.func29 rfl rfl rfl (by kernel_rfl) rfl fun K => ?_
    (repeat' (first | with_reducible (first | refine zA fun Kn hK => ?_ | refine zB (by kernel_rfl) ?_ | refine Nx.go ?_ | go_step) | fail | with_reducible (first | refine zI ?_ | refine zJ ?_ | refine zK ?_ ?_ | refine zL ?_ ?_ | refine zR (by kernel_rfl) ?_) | simp (maxSteps := 9999999) (disch := omega) only [wq] | (with_reducible refine zM (fun hb => ?_) (fun hb => ?_) <;> (try simp only [hb])) | (with_reducible refine And.intro (by first | omega | (simp; done) | (simp; omega)) ?_) | simp (maxSteps := 9999999) (implicitDefEqProofs := false) only [go_sem, d] | fail))
    try rfl
theorem rbound_m (b : Bd) (w : List UInt8) (hw : w.length ≤ 1000000) : Spec Tryz.prog G 30 [.g (bdD b), .c (.v (.string ⟨w.toArray⟩))] (.one (.c (.sl (bdT b w).length ((bdT b w).flatMap treeC)))) := by
  obtain ⟨i, o, t⟩ := b
  have h1 := atomref_m (G := G) w (by omega)
  have h2 := atomref_m (G := G) (w ++ [101]) (by simp; omega)
  have e1 := treeC_mk false false [] w []
  have e2 := treeC_mk false false [] (w ++ [101]) []
  have e3 := treeC_mk false false [] t []
  unfold bdT bdD bD at *
  dsimp only at *
  cases i with
  | false =>
    refine spec_of Tryz.func30 rfl rfl rfl (by kernel_rfl) rfl fun K => ?_
    (repeat' (first | with_reducible (first | refine zA fun Kn hK => ?_ | refine zB (by kernel_rfl) ?_ | refine Nx.go ?_ | go_step) | fail | with_reducible (first | refine zI ?_ | refine zJ ?_ | refine zK ?_ ?_ | refine zL ?_ ?_ | refine zR (by kernel_rfl) ?_) | simp (maxSteps := 9999999) (disch := omega) only [wq] | (with_reducible refine zM (fun hb => ?_) (fun hb => ?_) <;> (try simp only [hb])) | (with_reducible refine And.intro (by first | omega | (simp; done) | (simp; omega)) ?_) | simp (maxSteps := 9999999) (implicitDefEqProofs := false) only [go_sem, ] | fail))
    all_goals rfl
  | true =>
    cases o with
    | false =>
      refine spec_of Tryz.func30 rfl rfl rfl (by kernel_rfl) rfl fun K => ?_
      (repeat' (first | with_reducible (first | refine zA fun Kn hK => ?_ | refine zB (by kernel_rfl) ?_ | refine Nx.go ?_ | go_step) | (refine ⟨_, h2, ?_⟩) | with_reducible (first | refine zI ?_ | refine zJ ?_ | refine zK ?_ ?_ | refine zL ?_ ?_ | refine zR (by kernel_rfl) ?_) | simp (maxSteps := 9999999) (disch := omega) only [wq] | (with_reducible refine zM (fun hb => ?_) (fun hb => ?_) <;> (try simp only [hb])) | (with_reducible refine And.intro (by first | omega | (simp; done) | (simp; omega)) ?_) | simp (maxSteps := 9999999) (implicitDefEqProofs := false) only [go_sem, atomT, e1, e2, e3] | fail))
      simp only [List.flatMap_cons, List.flatMap_nil, atomT, treeC_mk, List.cons_append, List.nil_append]
      rfl
    | true =>
      refine spec_of Tryz.func30 rfl rfl rfl (by kernel_rfl) rfl fun K => ?_
      (repeat' (first | with_reducible (first | refine zA fun Kn hK => ?_ | refine zB (by kernel_rfl) ?_ | refine Nx.go ?_ | go_step) | (refine ⟨_, h1, ?_⟩) | with_reducible (first | refine zI ?_ | refine zJ ?_ | refine zK ?_ ?_ | refine zL ?_ ?_ | refine zR (by kernel_rfl) ?_) | simp (maxSteps := 9999999) (disch := omega) only [wq] | (with_reducible refine zM (fun hb => ?_) (fun hb => ?_) <;> (try simp only [hb])) | (with_reducible refine And.intro (by first | omega | (simp; done) | (simp; omega)) ?_) | simp (maxSteps := 9999999) (implicitDefEqProofs := false) only [go_sem, atomT, e1, e2, e3] | fail))
      simp only [List.flatMap_cons, List.flatMap_nil, atomT, treeC_mk, List.cons_append, List.nil_append]
      rfl
end
end Go.Proofs.YtbeghpkkpnbkgaaGreatDoor
/- Tags: the document's Value. -/
namespace Go.Proofs.YtbeghpkkpnbkgaaGreatDoor
open Go.RowKit
theorem rep1 {α : Type} {x : α} : List.replicate 1 x = [x] := rfl
section
variable {G : Nat → Option (List D)}
theorem rvalue12_m : ∀ t : Tg, ∀ cs : List D, tagC t = cs → t.wt ≤ 1000000000 → t.right isV = true → Spec Tryz.prog G 11 [.g cs] (.one (.g (treeC t.val))) := Tg.ind fun t ih cs hcs hw hr => by
  subst hcs
  have hstar := atomref_m (G := G) wStar (by decide)
  have hset := atomref_m (G := G) wSet (by decide)
  have hpre := atomref_m (G := G) wPrefix (by decide)
  have hrng := atomref_m (G := G) wRange (by decide)
  unfold wStar wSet wPrefix wRange at *
  have key : ∀ k : UInt8, ((t.kind.toNat : Int) == (k.toNat : Int)) = decide (t.kind = k) := fun k => by rw [u8_beq]; exact Bool.beq_eq_decide_eq _ _
  have e1 : ((t.kind.toNat : Int) == 1) = decide (t.kind = 1) := key 1
  have e2 : ((t.kind.toNat : Int) == 2) = decide (t.kind = 2) := key 2
  have e4 : ((t.kind.toNat : Int) == 4) = decide (t.kind = 4) := key 4
  have e5 : ((t.kind.toNat : Int) == 5) = decide (t.kind = 5) := key 5
  have e6 : ((t.kind.toNat : Int) == 6) = decide (t.kind = 6) := key 6
  clear key
  have hv := t.val_eq
  by_cases c1 : t.kind = 1
  · rw [if_pos c1] at hv
    rw [decide_eq_true c1] at e1
    rw [hv, tagC_eq]
    refine spec_of Tryz.func11 rfl rfl rfl (by kernel_rfl) rfl fun K => ?_
    (repeat' (first | with_reducible (first | refine zA fun Kn hK => ?_ | refine zB (by kernel_rfl) ?_ | refine Nx.go ?_ | go_step) | (refine ⟨_, hstar, ?_⟩) | with_reducible (first | refine zI ?_ | refine zJ ?_ | refine zK ?_ ?_ | refine zL ?_ ?_ | refine zR (by kernel_rfl) ?_) | simp (maxSteps := 9999999) (disch := omega) only [wq] | (with_reducible refine zM (fun hb => ?_) (fun hb => ?_) <;> (try simp only [hb])) | (with_reducible refine And.intro (by first | omega | (simp; done) | (simp; omega)) ?_) | simp (maxSteps := 9999999) (implicitDefEqProofs := false) only [go_sem, e1, rep1, atomT, treeC_mk, bD, bytesD] | fail))
    all_goals simp only [listT, atomT, treeC_mk, List.flatMap_cons, List.flatMap_nil, List.cons_append, List.nil_append, bytesD]
    all_goals rfl
  rw [if_neg c1] at hv
  rw [decide_eq_false c1] at e1
  by_cases c2 : t.kind = 2
  · rw [if_pos c2] at hv
    rw [decide_eq_true c2] at e2
    rw [hv, tagC_eq]
    refine spec_of Tryz.func11 rfl rfl rfl (by kernel_rfl) rfl fun K => ?_
    (repeat' (first | with_reducible (first | refine zA fun Kn hK => ?_ | refine zB (by kernel_rfl) ?_ | refine Nx.go ?_ | go_step) | (refine ⟨_, hstar, ?_⟩) | with_reducible (first | refine zI ?_ | refine zJ ?_ | refine zK ?_ ?_ | refine zL ?_ ?_ | refine zR (by kernel_rfl) ?_) | simp (maxSteps := 9999999) (disch := omega) only [wq] | (with_reducible refine zM (fun hb => ?_) (fun hb => ?_) <;> (try simp only [hb])) | (with_reducible refine And.intro (by first | omega | (simp; done) | (simp; omega)) ?_) | simp (maxSteps := 9999999) (implicitDefEqProofs := false) only [go_sem, e1, e2, rep1, atomT, treeC_mk, bD, bytesD] | fail))
    all_goals simp only [listT, atomT, treeC_mk, List.flatMap_cons, List.flatMap_nil, List.cons_append, List.nil_append, bytesD]
    all_goals rfl
  rw [if_neg c2] at hv
  rw [decide_eq_false c2] at e2
  by_cases c5 : t.kind = 5
  · have c4 : t.kind ≠ 4 := by rw [c5]; decide
    rw [if_neg c4, if_pos c5] at hv
    rw [decide_eq_false c4] at e4
    rw [decide_eq_true c5] at e5
    rw [hv, tagC_eq]
    refine spec_of Tryz.func11 rfl rfl rfl (by kernel_rfl) rfl fun K => ?_
    (repeat' (first | with_reducible (first | refine zA fun Kn hK => ?_ | refine zB (by kernel_rfl) ?_ | refine Nx.go ?_ | go_step) | (refine ⟨_, hstar, ?_⟩) | (refine ⟨_, hpre, ?_⟩) | with_reducible (first | refine zI ?_ | refine zJ ?_ | refine zK ?_ ?_ | refine zL ?_ ?_ | refine zR (by kernel_rfl) ?_) | simp (maxSteps := 9999999) (disch := omega) only [wq] | (with_reducible refine zM (fun hb => ?_) (fun hb => ?_) <;> (try simp only [hb])) | (with_reducible refine And.intro (by first | omega | (simp; done) | (simp; omega)) ?_) | simp (maxSteps := 9999999) (implicitDefEqProofs := false) only [go_sem, e1, e2, e4, e5, atomT, treeC_mk, bD, bytesD] | fail))
    all_goals simp only [listT, atomT, treeC_mk, List.flatMap_cons, List.flatMap_nil, List.cons_append, List.nil_append, bytesD]
    all_goals rfl
  rw [if_neg c5] at hv
  rw [decide_eq_false c5] at e5
  have hrk : ∀ x ∈ t.kids, x.right isV = true := by
    have := hr
    rw [Tg.right_eq, Bool.and_eq_true, List.all_eq_true] at this
    exact this.2
  have h5 := t.wt_kids
  by_cases c3 : t.kind = 3
  · have c4 : t.kind ≠ 4 := by rw [c3]; decide
    have c6 : t.kind ≠ 6 := by rw [c3]; decide
    rw [if_neg c4, if_neg c6] at hv
    rw [decide_eq_false c4] at e4
    rw [decide_eq_false c6] at e6
    rw [hv, tagC_eq]
    refine spec_of Tryz.func11 rfl rfl rfl (by kernel_rfl) rfl fun K => ?_
    (repeat' (first | with_reducible (first | refine zA fun Kn hK => ?_ | refine zB (by kernel_rfl) ?_ | refine Nx.go ?_ | go_step) | (refine ⟨_, hstar, ?_⟩) | with_reducible (first | refine zI ?_ | refine zJ ?_ | refine zK ?_ ?_ | refine zL ?_ ?_ | refine zR (by kernel_rfl) ?_) | simp (maxSteps := 9999999) (disch := omega) only [wq] | (with_reducible refine zM (fun hb => ?_) (fun hb => ?_) <;> (try simp only [hb])) | (with_reducible refine And.intro (by first | omega | (simp; done) | (simp; omega)) ?_) | simp (maxSteps := 9999999) (implicitDefEqProofs := false) only [go_sem, e1, e2, e4, e5, e6, atomT, treeC_mk, bD, bytesD] | fail))
    refine sound_grow 4 7 5 0 0 (by rfl) (by rfl) (by rfl) (by rfl) ?_
    refine sound_trim 7 0 (by rfl) ?_
    refine sound_loopR (fun x : {k : Nat // k ≤ t.kids.length} => ⟨[(1, vP 1 0), (2, vP 2 0), (4, vR 1000 5 x.1), (64, vI t.kids.length), (65, vI x.1)], [(1, some ⟨34, tagK t, true, false⟩), (2, some ⟨27, zeroOf Tryz.prog 27, true, false⟩), (1000, some ⟨27, ((t.kids.take x.1).flatMap fun x => treeC x.val).map C.d, false, false⟩)]⟩) (fun x => t.kids.length - x.1) ⟨0, by omega⟩ [(1000, 7)] (by (iterate 2 ((try simp (maxSteps := 9999999) (implicitDefEqProofs := false) only [go_sem, bD, AObj.trim, List.take_zero, List.flatMap_nil, List.map_nil]); (try simp (maxSteps := 9999999) (disch := omega) only [wq]))); try simp) (fun ⟨k, hk⟩ => ?_)
    by_cases hlt : k < t.kids.length
    · obtain ⟨x, hx⟩ : ∃ x, t.kids[k]? = some x := ⟨_, List.getElem?_eq_getElem hlt⟩
      have hb : decide ((k : Int) < (t.kids.length : Int)) = true := by simpa using hlt
      have hm := List.mem_of_getElem? hx
      have ht : (t.kids.take (k + 1)).flatMap (fun x => treeC x.val) = (t.kids.take k).flatMap (fun x => treeC x.val) ++ treeC x.val := by
        rw [List.take_add_one, hx, List.flatMap_append]
        simp
      have hlen : ((t.kids.take k).flatMap fun x => treeC x.val).length = k * 5 := by
        rw [show ((t.kids.take k).flatMap fun x => treeC x.val) = ((t.kids.take k).map Tg.val).flatMap treeC from by rw [List.flatMap_map], treeC_flen, List.length_map, List.length_take, Nat.min_eq_left hk]
      generalize (t.kids.take k).flatMap (fun x => treeC x.val) = W at *
      (repeat' (first | with_reducible (first | refine zA fun Kn hK => ?_ | refine zB (by kernel_rfl) ?_ | refine Nx.go ?_ | go_step) | (refine ⟨_, ih x hm _ rfl (by have := Tg.wt_kid hm; omega) (hrk x hm), ?_⟩) | with_reducible (first | refine zI ?_ | refine zJ ?_ | refine zK ?_ ?_ | refine zL ?_ ?_ | refine zR (by kernel_rfl) ?_) | simp (maxSteps := 9999999) (disch := omega) only [wq] | (with_reducible refine zM (fun hb => ?_) (fun hb => ?_) <;> (try simp only [hb])) | (with_reducible refine And.intro (by first | omega | (simp; done) | (simp; omega)) ?_) | simp (maxSteps := 9999999) (implicitDefEqProofs := false) only [go_sem, hb, rep1, hlen, List.length_map, true_and, Nat.le_refl, List.append_nil, flat_at tagC_len hx] | fail))
      refine ⟨[(1000, 76)], ⟨k + 1, hlt⟩, ?_⟩
      rw [ht]
      (iterate 2 ((try simp (maxSteps := 9999999) (implicitDefEqProofs := false) only [go_sem, bD]); (try simp (maxSteps := 9999999) (disch := omega) only [wq])))
      (simp only [ijq, true_and, and_true]; first | done | omega | (split <;> omega) | (simp; done) | (simp; omega))
    · have hb : decide ((k : Int) < (t.kids.length : Int)) = false := by simpa using hlt
      obtain rfl : k = t.kids.length := by omega
      rw [List.take_length]
      have hlen : (t.kids.flatMap fun x => treeC x.val).length = t.kids.length * 5 := by
        rw [show (t.kids.flatMap fun x => treeC x.val) = (t.kids.map Tg.val).flatMap treeC from by rw [List.flatMap_map], treeC_flen, List.length_map]
      (repeat' (first | with_reducible (first | refine zA fun Kn hK => ?_ | refine zB (by kernel_rfl) ?_ | refine Nx.go ?_ | go_step) | fail | with_reducible (first | refine zI ?_ | refine zJ ?_ | refine zK ?_ ?_ | refine zL ?_ ?_ | refine zR (by kernel_rfl) ?_) | simp (maxSteps := 9999999) (disch := omega) only [wq] | (with_reducible refine zM (fun hb => ?_) (fun hb => ?_) <;> (try simp only [hb])) | (with_reducible refine And.intro (by first | omega | (simp; done) | (simp; omega)) ?_) | simp (maxSteps := 9999999) (implicitDefEqProofs := false) only [go_sem, hb, hlen, bD] | fail))
      rw [listT, treeC_mk, List.flatMap_map, List.length_map]
      rfl
  by_cases c4 : t.kind = 4
  · have c6 : t.kind ≠ 6 := by rw [c4]; decide
    rw [if_pos c4] at hv
    rw [decide_eq_true c4] at e4
    rw [decide_eq_false c6] at e6
    rw [hv, tagC_eq]
    generalize hO : treeC (listT (atomT wStar :: atomT wSet :: t.kids.map Tg.val)) = O
    obtain ⟨T, hT⟩ : ∃ T, T = treeC (atomT wStar) ++ treeC (atomT wSet) := ⟨_, rfl⟩
    have hTl : T.length = 10 := by rw [hT, List.length_append, treeC_len, treeC_len]
    refine spec_of Tryz.func11 rfl rfl rfl (by kernel_rfl) rfl fun K => ?_
    (repeat' (first | with_reducible (first | refine zA fun Kn hK => ?_ | refine zB (by kernel_rfl) ?_ | refine Nx.go ?_ | go_step) | (refine ⟨_, hstar, ?_⟩) | (refine ⟨_, hset, ?_⟩) | with_reducible (first | refine zI ?_ | refine zJ ?_ | refine zK ?_ ?_ | refine zL ?_ ?_ | refine zR (by kernel_rfl) ?_) | simp (maxSteps := 9999999) (disch := omega) only [wq] | (with_reducible refine zM (fun hb => ?_) (fun hb => ?_) <;> (try simp only [hb])) | (with_reducible refine And.intro (by first | omega | (simp; done) | (simp; omega)) ?_) | simp (maxSteps := 9999999) (implicitDefEqProofs := false) only [go_sem, e1, e2, e4, e5, e6, atomT, treeC_mk, bD, bytesD] | fail))
    refine sound_loopR (fun x : {k : Nat // k ≤ t.kids.length} => ⟨[(1, vP 1 0), (2, vP 2 0), (4, vR 1000 5 (2 + x.1)), (64, vI t.kids.length), (65, vI x.1)], [(1, some ⟨34, tagK t, true, false⟩), (2, some ⟨27, zeroOf Tryz.prog 27, true, false⟩), (1000, some ⟨27, (T ++ (t.kids.take x.1).flatMap fun x => treeC x.val).map C.d, false, false⟩)]⟩) (fun x => t.kids.length - x.1) ⟨0, by omega⟩ [(1000, 26)] (by (iterate 2 ((try simp (maxSteps := 9999999) (implicitDefEqProofs := false) only [go_sem, bD, AObj.trim, List.take_zero, List.flatMap_nil, List.map_nil, List.append_nil]); (try simp (maxSteps := 9999999) (disch := omega) only [wq]))); refine ⟨rfl, ?_, by simp, by simp⟩; rw [hT, atomT, atomT, treeC_mk, treeC_mk]; rfl) (fun ⟨k, hk⟩ => ?_)
    by_cases hlt : k < t.kids.length
    · obtain ⟨x, hx⟩ : ∃ x, t.kids[k]? = some x := ⟨_, List.getElem?_eq_getElem hlt⟩
      have hb : decide ((k : Int) < (t.kids.length : Int)) = true := by simpa using hlt
      have hm := List.mem_of_getElem? hx
      have ht : T ++ (t.kids.take (k + 1)).flatMap (fun x => treeC x.val) = T ++ (t.kids.take k).flatMap (fun x => treeC x.val) ++ treeC x.val := by
        rw [List.take_add_one, hx, List.flatMap_append, List.append_assoc]
        simp
      have hlen : (T ++ (t.kids.take k).flatMap fun x => treeC x.val).length = (2 + k) * 5 := by
        rw [List.length_append, hTl, show ((t.kids.take k).flatMap fun x => treeC x.val) = ((t.kids.take k).map Tg.val).flatMap treeC from by rw [List.flatMap_map], treeC_flen, List.length_map, List.length_take, Nat.min_eq_left hk]
        omega
      generalize T ++ (t.kids.take k).flatMap (fun x => treeC x.val) = W at *
      (repeat' (first | with_reducible (first | refine zA fun Kn hK => ?_ | refine zB (by kernel_rfl) ?_ | refine Nx.go ?_ | go_step) | (refine ⟨_, ih x hm _ rfl (by have := Tg.wt_kid hm; omega) (hrk x hm), ?_⟩) | with_reducible (first | refine zI ?_ | refine zJ ?_ | refine zK ?_ ?_ | refine zL ?_ ?_ | refine zR (by kernel_rfl) ?_) | simp (maxSteps := 9999999) (disch := omega) only [wq] | (with_reducible refine zM (fun hb => ?_) (fun hb => ?_) <;> (try simp only [hb])) | (with_reducible refine And.intro (by first | omega | (simp; done) | (simp; omega)) ?_) | simp (maxSteps := 9999999) (implicitDefEqProofs := false) only [go_sem, hb, rep1, hlen, List.length_map, true_and, Nat.le_refl, List.append_nil, flat_at tagC_len hx] | fail))
      refine ⟨[(1000, 76)], ⟨k + 1, hlt⟩, ?_⟩
      rw [ht]
      (iterate 2 ((try simp (maxSteps := 9999999) (implicitDefEqProofs := false) only [go_sem, bD]); (try simp (maxSteps := 9999999) (disch := omega) only [wq])))
      (simp only [ijq, true_and, and_true]; first | done | omega | (split <;> omega) | (simp; done) | (simp; omega))
    · have hb : decide ((k : Int) < (t.kids.length : Int)) = false := by simpa using hlt
      obtain rfl : k = t.kids.length := by omega
      rw [List.take_length]
      have hlen : (T ++ t.kids.flatMap fun x => treeC x.val).length = (2 + t.kids.length) * 5 := by
        rw [List.length_append, hTl, show (t.kids.flatMap fun x => treeC x.val) = (t.kids.map Tg.val).flatMap treeC from by rw [List.flatMap_map], treeC_flen, List.length_map]
        omega
      have hfin : (listT (atomT wStar :: atomT wSet :: t.kids.map Tg.val)).kids.flatMap treeC = T ++ t.kids.flatMap fun x => treeC x.val := by
        rw [listT]
        show (atomT wStar :: atomT wSet :: t.kids.map Tg.val).flatMap treeC = _
        rw [List.flatMap_cons, List.flatMap_cons, List.flatMap_map, hT, List.append_assoc]
      have hlk : (listT (atomT wStar :: atomT wSet :: t.kids.map Tg.val)).kids.length = 2 + t.kids.length := by
        show (atomT wStar :: atomT wSet :: t.kids.map Tg.val).length = _
        rw [List.length_cons, List.length_cons, List.length_map]
        omega
      have hout : treeC (listT (atomT wStar :: atomT wSet :: t.kids.map Tg.val)) = [.v (.bool true), .v (.bool false), .sl 0 [], .sl 0 [], .sl (2 + t.kids.length) (T ++ t.kids.flatMap fun x => treeC x.val)] := by
        rw [treeC_eq, hfin, hlk]
        rfl
      rw [hO] at hout
      clear hO hfin hlk
      generalize T ++ t.kids.flatMap (fun x => treeC x.val) = W at *
      (repeat' (first | with_reducible (first | refine zA fun Kn hK => ?_ | refine zB (by kernel_rfl) ?_ | refine Nx.go ?_ | go_step) | fail | with_reducible (first | refine zI ?_ | refine zJ ?_ | refine zK ?_ ?_ | refine zL ?_ ?_ | refine zR (by kernel_rfl) ?_) | simp (maxSteps := 9999999) (disch := omega) only [wq] | (with_reducible refine zM (fun hb => ?_) (fun hb => ?_) <;> (try simp only [hb])) | (with_reducible refine And.intro (by first | omega | (simp; done) | (simp; omega)) ?_) | simp (maxSteps := 9999999) (implicitDefEqProofs := false) only [go_sem, hb, hlen, bD] | fail))
      rw [hout]
  rw [if_neg c4] at hv
  rw [decide_eq_false c4] at e4
  have hok : t.ok isV = true := by
    have := hr
    rw [Tg.right_eq, Bool.and_eq_true] at this
    exact this.1
  by_cases c6 : t.kind = 6
  · rw [if_pos c6] at hv
    rw [decide_eq_true c6] at e6
    have hmr : mayR isV t.ord t.lo t.hi = true := by
      simp [Tg.ok, Tg.blank, c6] at hok
      exact hok.1.1
    have ho : 1 ≤ t.ord.toNat ∧ t.ord.toNat ≤ 5 := by
      rw [mayR, Bool.and_eq_true, decide_eq_true_eq] at hmr
      exact hmr.1
    have hnm := rname_m (G := G) t.ord ho
    have hon := atomref_m (G := G) (ordN t.ord) (by
      have := ho
      unfold ordN
      generalize t.ord.toNat = n at *
      match n, this with
      | 1, _ => decide
      | 2, _ => decide
      | 3, _ => decide
      | 4, _ => decide
      | 5, _ => decide)
    have hlo := rbound_m (G := G) t.lo [103] (by decide)
    have hhi := rbound_m (G := G) t.hi [108] (by decide)
    rw [hv, tagC_eq]
    generalize hO : treeC (listT (atomT wStar :: atomT wRange :: atomT (ordN t.ord) :: (bdT t.lo wG ++ bdT t.hi wL))) = O
    unfold wG wL at hO
    unfold bdD at hlo hhi
    have hb2 : ∀ b w, (bdT b w).length ≤ 2 := fun b w => by unfold bdT; split <;> simp
    have n1 := hb2 t.lo [103]
    have n2 := hb2 t.hi [108]
    clear hb2
    generalize bdT t.lo [103] = L1 at *
    generalize bdT t.hi [108] = L2 at *
    have s1 : (3 + L1.length) * 80 ≤ 140737488355328 := by omega
    have s2 : 3 + L1.length ≤ 9223372036854775807 := by omega
    have s3 : (3 + L1.length + L2.length) * 80 ≤ 140737488355328 := by omega
    have s4 : 3 + L1.length + L2.length ≤ 9223372036854775807 := by omega
    have z1 : (L1.flatMap treeC).length + 15 = (3 + L1.length) * 5 := by rw [treeC_flen]; omega
    have z2 : (L1.flatMap treeC).length + (L2.flatMap treeC).length + 15 = (3 + L1.length + L2.length) * 5 := by rw [treeC_flen, treeC_flen]; omega
    refine spec_of Tryz.func11 rfl rfl rfl (by kernel_rfl) rfl fun K => ?_
    (repeat' (first | with_reducible (first | refine zA fun Kn hK => ?_ | refine zB (by kernel_rfl) ?_ | refine Nx.go ?_ | go_step) | (refine ⟨_, hstar, ?_⟩) | (refine ⟨_, hrng, ?_⟩) | (refine ⟨_, hnm, ?_⟩) | (refine ⟨_, hon, ?_⟩) | (refine ⟨_, hlo, ?_⟩) | (refine ⟨_, hhi, ?_⟩) | with_reducible (first | refine zI ?_ | refine zJ ?_ | refine zK ?_ ?_ | refine zL ?_ ?_ | refine zR (by kernel_rfl) ?_) | simp (maxSteps := 9999999) (disch := omega) only [wq] | (with_reducible refine zM (fun hb => ?_) (fun hb => ?_) <;> (try simp only [hb])) | (with_reducible refine And.intro (by first | omega | (simp; done) | (simp; omega)) ?_) | simp (maxSteps := 9999999) (implicitDefEqProofs := false) only [go_sem, e1, e2, e4, e5, e6, s1, s2, s3, s4, z1, z2, List.length_map, List.length_append, true_and, atomT, treeC_mk, bD, bytesD] | fail))
    have hl3 : (atomT wStar :: atomT wRange :: atomT (ordN t.ord) :: (L1 ++ L2)).length = 3 + L1.length + L2.length := by
      simp only [List.length_cons, List.length_append]
      omega
    rw [← hO, listT, treeC_mk, hl3]
    simp only [wStar, wRange, atomT, treeC_mk, List.flatMap_cons, List.flatMap_append, List.cons_append, List.nil_append]
    rfl
  · exfalso
    simp [Tg.ok, Tg.blank, c1, c2, c3, c4, c5, c6] at hok
end
end Go.Proofs.YtbeghpkkpnbkgaaGreatDoor
