/- Parts of the proof, laid together. -/
import Derived.Test.YtfammdfpgccnfaaGreatDoorC6
import Derived.Lib.Builder
import Derived.Lib.UnsafeStr
import Derived.Lib.AppendStr
import Derived.WalkKit
import Derived.Defers
import Derived.Recover
import Derived.Laws.Pointers
import Derived.Deep.RegionWith
import Derived.BigQuiet
set_option linter.unusedVariables false
set_option linter.unusedSimpArgs false
set_option maxRecDepth 100000
set_option maxHeartbeats 8000000
/- Dates: the program's Put. -/
namespace Go.Proofs.YtfammdfpgccnfaaGreatDoor
open Go.RowKit
theorem call1 {P : Program} {f : FuncId} {a r : Int} (h : Spec P (fun _ => none) f [.c (.v (.int .i64 a))] (.one (.c (.v (.int .i64 r))))) (w : World) :
    Calls P f #[.int .i64 a] w fun e w' => e = .returned (.int .i64 r) ∧ Below w.heap.size w w' := by
  refine Calls.mono ((h.get0 rfl) w (fun _ => False) [.int .i64 a] (fun b hb => hb.elim) (fun g cs hg => by cases hg) ⟨rfl, fun i x v hx hv => ?_⟩) ?_
  · match i with
    | 0 =>
      simp only [List.getElem?_cons_zero, Option.some.injEq] at hx hv
      subst hx hv
      exact .v _ rfl
    | i + 1 => simp at hx
  · rintro e w' ⟨he, u, rfl, hu⟩
    have hu : RD w' _ (.v (.int .i64 r)) u := hu
    cases hu
    exact ⟨rfl, he.os, he.tape, he.output, he.size, fun k hk => he.block k hk (fun h => h)⟩
theorem call2 {P : Program} {f : FuncId} {a b r : Int} (h : Spec P (fun _ => none) f [.c (.v (.int .i64 a)), .c (.v (.int .i64 b))] (.one (.c (.v (.int .i64 r))))) (w : World) :
    Calls P f #[.int .i64 a, .int .i64 b] w fun e w' => e = .returned (.int .i64 r) ∧ Below w.heap.size w w' := by
  refine Calls.mono ((h.get0 rfl) w (fun _ => False) [.int .i64 a, .int .i64 b] (fun b hb => hb.elim) (fun g cs hg => by cases hg) ⟨rfl, fun i x v hx hv => ?_⟩) ?_
  · match i with
    | 0 =>
      simp only [List.getElem?_cons_zero, Option.some.injEq] at hx hv
      subst hx hv
      exact .v _ rfl
    | 1 =>
      simp only [List.getElem?_cons_succ, List.getElem?_cons_zero, Option.some.injEq] at hx hv
      subst hx hv
      exact .v _ rfl
    | i + 2 => simp at hx
  · rintro e w' ⟨he, u, rfl, hu⟩
    have hu : RD w' _ (.v (.int .i64 r)) u := hu
    cases hu
    exact ⟨rfl, he.os, he.tape, he.output, he.size, fun k hk => he.block k hk (fun h => h)⟩
theorem putD_len (n : Nat) : ∀ k, (putD n k).length = k := fun k => by
  induction k with
  | zero => rfl
  | succ k ih => simp [putD, ih]
theorem max_val : aheadN 10000 = 3652425 := rfl
theorem maxN_eq : maxN = 315569520000 := by
  unfold maxN
  rw [max_val]
def dateIn (n : Int) : DR := .many [.c (.v (.string ⟨(if decide (0 ≤ n ∧ n < (maxN : Int)) = true then dateS n.toNat else []).toArray⟩)), .c (.v (.bool (decide (0 ≤ n ∧ n < (maxN : Int)))))]
theorem dput_yes (n : Nat) (h : n < maxN) (w : World) : Calls Tryz.prog 132 #[.int .i64 (n : Int)] w fun e w' => e = .returned (.tuple #[.string ⟨(dateS n).toArray⟩, .bool true]) ∧ Below w.heap.size w w' := by
  rw [maxN_eq] at h
  have a1 := ahead_m (G := fun _ => none) 10000 (by omega)
  rw [max_val] at a1
  have a2 : ∀ w, _ := call1 a1
  clear a1
  have b1 : decide ((n : Int) < 0) = false := by simp
  have b2 : decide ((n : Int) ≥ 315569520000) = false := by
    rw [decide_eq_false_iff_not]
    omega
  unfold dateS
  obtain ⟨L, hL⟩ : ∃ L, L = n / 86400 := ⟨_, rfl⟩
  obtain ⟨R, hR⟩ : ∃ R, R = n % 86400 := ⟨_, rfl⟩
  obtain ⟨y0, hy0⟩ : ∃ y, y = L / 366 := ⟨_, rfl⟩
  rw [← hL, ← hR]
  have q1 : (n : Int) / 86400 = (L : Int) := by omega
  have q2 : (n : Int) % 86400 = (R : Int) := by omega
  have q3 : (L : Int) / 366 = (y0 : Int) := by omega
  have lb : L < 3652425 := by omega
  have rb : R < 86400 := by omega
  have yb : y0 < 10000 := by omega
  have h366 := ahead_366 L
  have hyok := yearN_ok (left := L) (by rw [max_val]; exact lb)
  rw [← hy0] at h366
  have HL : Hid (L = n / 86400) := hL
  have HR : Hid (R = n % 86400) := hR
  have H366 : Hid (aheadN y0 ≤ L) := h366
  have Hyok : Hid (aheadN (yearN L) ≤ L ∧ L < aheadN (yearN L + 1) ∧ yearN L < 10000) := hyok
  clear hL hR hy0 h366 hyok
  go_enter Tryz.func132, Tryz.ntmps132
  go_wp2_with fail
  refine Calls.mono (a2 _) ?_
  rintro e w2 ⟨rfl, hB2⟩
  clear a2
  go_wp2
  simp only [q2]
  go_loopw [6] (fun x wq => ∃ k : Nat, x = .int .i64 (k : Int) ∧ Hid (aheadN k ≤ L ∧ Below w.heap.size w wq) ∧ k < 10000) (fun x _ => 10000 - (intOf x).toNat)
  case atStart => exact ⟨y0, rfl, ⟨H366.out, hB2⟩, yb⟩
  case round =>
    rename World => wo
    obtain ⟨k, rfl, HB, hk⟩ := hrel
    have e1 : IntKind.i64.wrap ((k : Int) + 1) = (k : Int) + 1 := IntWalk.i64_in _ (by omega)
    have a1 := ahead_m (G := fun _ => none) (k + 1) (by omega)
    have a2 : ∀ w, _ := call1 a1
    have e2 : ((k + 1 : Nat) : Int) = (k : Int) + 1 := by omega
    rw [e2] at a2
    clear a1
    obtain ⟨A, hA⟩ : ∃ A, A = aheadN (k + 1) := ⟨_, rfl⟩
    rw [← hA] at a2
    have HA : Hid (A = aheadN (k + 1)) := hA
    clear hA e2
    go_wp2_with fail
    refine Calls.mono (a2 _) ?_
    rintro e w3 ⟨rfl, hB3⟩
    clear a2
    have HB3 : Hid (Below w.heap.size w w3) := HB.out.2.trans (hB3.mono HB.out.2.size)
    clear hB3
    by_cases hle : A ≤ L
    · have b3 : decide ((A : Int) ≤ (L : Int)) = true := by simpa using hle
      go_wp2
      refine ⟨⟨k + 1, by simp, ⟨by rw [← HA.out]; exact hle, HB3.out⟩, ?_⟩, ?_⟩
      · have h1 := HA.out
        rw [← max_val] at lb
        apply Decidable.byContradiction
        intro hn
        have := ahead_mono (show 10000 ≤ k + 1 by omega)
        omega
      · simp only [intOf]
        omega
    · have b3 : decide (A ≤ L) = false := by simpa using hle
      have hyk : k = yearN L := year_one HB.out.1 (by rw [← HA.out]; omega) Hyok.out.1 Hyok.out.2.1
      have H12 : Hid (L - aheadN k < sumD k 12) := by
        have h1 := HA.out
        rw [aheadN_succ] at h1
        have h2 := sumD_all k
        unfold Hid
        omega
      have Hyk : Hid (k = yearN L) := hyk
      clear hle hyk
      have a1 := ahead_m (G := fun _ => none) k (by omega)
      have a3 : ∀ w, _ := call1 a1
      clear a1
      obtain ⟨A0, hA0⟩ : ∃ A, A = aheadN k := ⟨_, rfl⟩
      rw [← hA0] at a3
      have hle0 : A0 ≤ L := by rw [hA0]; exact HB.out.1
      have HA0 : Hid (A0 = aheadN k) := hA0
      clear hA0
      have e4 : IntKind.i64.wrap ((L : Int) - (A0 : Int)) = ((L - A0 : Nat) : Int) := by
        rw [IntWalk.i64_in _ (by omega)]
        omega
      obtain ⟨l, hl⟩ : ∃ l, l = L - A0 := ⟨_, rfl⟩
      rw [← hl] at e4
      have hlb : l ≤ L := by omega
      have Hl : Hid (l = L - A0) := hl
      clear hl
      go_wp2_with fail
      refine Calls.mono (a3 _) ?_
      rintro e w4 ⟨rfl, hB4⟩
      clear a3
      have HB4 : Hid (Below w.heap.size w w4) := HB3.out.trans (hB4.mono HB3.out.size)
      clear hB4
      go_wp2
      go_loopw [4, 7] (fun x y wq => ∃ j v : Nat, x = .int .i64 (v : Int) ∧ y = .int .i64 ((j + 1 : Nat) : Int) ∧ Hid (v + sumD k j = l ∧ Below w.heap.size w wq) ∧ j ≤ 11 ∧ v ≤ l) (fun _ y _ => 12 - (intOf y).toNat)
      case atStart => exact ⟨0, l, rfl, rfl, ⟨by simp [sumD], HB4.out⟩, by omega, Nat.le_refl _⟩
      case round =>
        rename World => wo
        obtain ⟨j, v, rfl, rfl, HV, hj, hvl⟩ := hrel
        have a1 := days_m (G := fun _ => none) k (j + 1)
        have a4 : ∀ w, _ := call2 a1
        clear a1
        have e5 : ((j + 1 : Nat) : Int) = (j : Int) + 1 := by omega
        rw [e5] at a4 ⊢
        clear e5
        obtain ⟨A, hA⟩ : ∃ A, A = daysN k (j + 1) := ⟨_, rfl⟩
        rw [← hA] at a4
        have hsum : sumD k (j + 1) = sumD k j + A := by rw [sumD, hA]
        have h28 : A ≤ 31 := by
          rw [hA]
          unfold daysN
          repeat' split
          all_goals omega
        have Hs : Hid (sumD k (j + 1) = sumD k j + A) := hsum
        have HA2 : Hid (A = daysN k (j + 1)) := hA
        clear hA hsum
        have e6 : IntKind.i64.wrap ((j : Int) + 1 + 1) = (j : Int) + 1 + 1 := IntWalk.i64_in _ (by omega)
        go_wp2_with fail
        refine Calls.mono (a4 _) ?_
        rintro e w5 ⟨rfl, hB5⟩
        have HB5 : Hid (Below w.heap.size w w5) := HV.out.2.trans (hB5.mono HV.out.2.size)
        clear hB5
        by_cases hle : A ≤ v
        · have b4 : decide (A ≤ v) = true := by simpa using hle
          have e7 : IntKind.i64.wrap ((v : Int) - (A : Int)) = ((v - A : Nat) : Int) := by
            rw [IntWalk.i64_in _ (by omega)]
            omega
          obtain ⟨u, hu⟩ : ∃ u, u = v - A := ⟨_, rfl⟩
          rw [← hu] at e7
          have Hu : Hid (u = v - A) := hu
          clear hu
          go_wp2_with fail
          refine Calls.mono (a4 _) ?_
          rintro e w6 ⟨rfl, hB6⟩
          have HB6 : Hid (Below w.heap.size w w6) := HB5.out.trans (hB6.mono HB5.out.size)
          clear hB6
          go_wp2
          have h1 := Hs.out
          have h2 := HV.out.1
          have h3 := H12.out
          have h4 := Hl.out
          have h5 := Hu.out
          have h6 := HA0.out
          have hj10 : j + 1 ≤ 11 := by
            apply Decidable.byContradiction
            intro hn
            obtain rfl : j = 11 := by omega
            have h1 : sumD k 12 = sumD k 11 + A := h1
            omega
          refine ⟨⟨j + 1, u, rfl, by simp, ⟨by omega, HB6.out⟩, hj10, by omega⟩, ?_⟩
          · simp only [intOf]
            omega
        · have b4 : decide (A ≤ v) = false := by simpa using hle
          obtain ⟨M, hM⟩ : ∃ M, M = j + 1 := ⟨_, rfl⟩
          obtain ⟨Dn, hDn⟩ : ∃ M, M = v + 1 := ⟨_, rfl⟩
          obtain ⟨H, hH⟩ : ∃ M, M = R / 3600 := ⟨_, rfl⟩
          obtain ⟨X, hX⟩ : ∃ M, M = R / 60 := ⟨_, rfl⟩
          obtain ⟨Mi, hMi⟩ : ∃ M, M = X % 60 := ⟨_, rfl⟩
          obtain ⟨Sx, hSx⟩ : ∃ M, M = R % 60 := ⟨_, rfl⟩
          have g1 : (j : Int) + 1 = (M : Int) := by omega
          have g2 : (v : Int) + 1 = (Dn : Int) := by omega
          have g3 : (R : Int) / 3600 = (H : Int) := by omega
          have g4 : (R : Int) / 60 = (X : Int) := by omega
          have g5 : (X : Int) % 60 = (Mi : Int) := by omega
          have g6 : (R : Int) % 60 = (Sx : Int) := by omega
          have hMon : monN k l = M := by
            have h0 := HV.out.1
            have h1 := Hs.out
            have h2 := H12.out
            have h3 := Hl.out
            have h4 := HA0.out
            have hm := monF_ok k 11 1 l l (Nat.le_refl _) rfl (by simp [sumD]) (by omega)
            rw [hM]
            exact mon_one hm.1 (by omega) hm.2.2.1 hm.2.2.2 (by rw [Nat.add_sub_cancel]; omega) (by omega)
          have HF : Hid (dateT (yearN L) (monN (yearN L) (L - aheadN (yearN L))) (L - aheadN (yearN L) - sumD (yearN L) (monN (yearN L) (L - aheadN (yearN L)) - 1) + 1) (R / 3600) (R / 60 % 60) (R % 60) = dateT k M Dn H Mi Sx) := by
            have h0 := HV.out.1
            have h3 := Hl.out
            have h4 := HA0.out
            have h5 : L - aheadN k = l := by omega
            rw [← Hyk.out, h5, hMon, ← hH, ← hX, ← hMi, ← hSx, hDn]
            have h6 : M - 1 = j := by omega
            rw [h6]
            have h7 : l - sumD k j = v := by omega
            rw [h7]
            rfl
          have bM : M ≤ 12 := by omega
          have bD : Dn ≤ 4000000 := by omega
          have hA31 := Nat.lt_of_not_le hle
          have bD : Dn ≤ 31 := by omega
          have bH : H ≤ 24 := by omega
          have bMi : Mi ≤ 60 := by omega
          have bS : Sx ≤ 60 := by omega
          clear hle a4 hMon hM hDn hH hX hMi hSx hA31
          go_wp2_with fail
          have hb0 : isB72 w5.heap.size w5.heap.size [] (w5.alloc (.cells #[.pointer none, .slice none 0 0] 182)) := Lib.fresh_isBuilder _ _ _
          have hB0 : Below w5.heap.size w5 (w5.alloc (.cells #[.pointer none, .slice none 0 0] 182)) := (Below.refl _ _).alloc (Nat.le_refl _) _
          have s0 := hB0.size
          generalize hb : w5.heap.size = b at *
          generalize (w5.alloc (.cells #[.pointer none, .slice none 0 0] 182)) = wa at *
          have H0 : Hid (isB72 b b [] wa ∧ Below b w5 wa ∧ b ≤ wa.heap.size) := ⟨hb0, hB0, by omega⟩
          clear hb0 hB0 s0
          refine Calls.mono (dateput_c b b _ [45] k 4 _ H0.out.1 (by simp) (by simp) (by omega) (by omega) H0.out.2.2) ?_
          rintro e x1 ⟨rfl, c1, d1⟩
          have H1 : Hid (isB72 b b ([] ++ putD k 4 ++ [45]) x1 ∧ Below b w5 x1 ∧ b ≤ x1.heap.size) := ⟨c1, H0.out.2.1.trans d1, Nat.le_trans H0.out.2.2 d1.size⟩
          clear c1 d1
          go_wp2_with fail
          refine Calls.mono (dateput_c b b _ [45] M 2 _ H1.out.1 (by simp [putD_len]) (by simp) (by omega) (by omega) H1.out.2.2) ?_
          rintro e x2 ⟨rfl, c1, d1⟩
          have H2 : Hid (isB72 b b (([] ++ putD k 4 ++ [45]) ++ putD M 2 ++ [45]) x2 ∧ Below b w5 x2 ∧ b ≤ x2.heap.size) := ⟨c1, H1.out.2.1.trans d1, Nat.le_trans H1.out.2.2 d1.size⟩
          clear c1 d1 H1
          go_wp2_with fail
          refine Calls.mono (dateput_c b b _ [95] Dn 2 _ H2.out.1 (by simp [putD_len]) (by simp) (by omega) (by omega) H2.out.2.2) ?_
          rintro e x3 ⟨rfl, c1, d1⟩
          have H3 : Hid (isB72 b b ((([] ++ putD k 4 ++ [45]) ++ putD M 2 ++ [45]) ++ putD Dn 2 ++ [95]) x3 ∧ Below b w5 x3 ∧ b ≤ x3.heap.size) := ⟨c1, H2.out.2.1.trans d1, Nat.le_trans H2.out.2.2 d1.size⟩
          clear c1 d1 H2
          go_wp2_with fail
          refine Calls.mono (dateput_c b b _ [58] H 2 _ H3.out.1 (by simp [putD_len]) (by simp) (by omega) (by omega) H3.out.2.2) ?_
          rintro e x4 ⟨rfl, c1, d1⟩
          have H4 : Hid (isB72 b b (((([] ++ putD k 4 ++ [45]) ++ putD M 2 ++ [45]) ++ putD Dn 2 ++ [95]) ++ putD H 2 ++ [58]) x4 ∧ Below b w5 x4 ∧ b ≤ x4.heap.size) := ⟨c1, H3.out.2.1.trans d1, Nat.le_trans H3.out.2.2 d1.size⟩
          clear c1 d1 H3
          go_wp2_with fail
          refine Calls.mono (dateput_c b b _ [58] Mi 2 _ H4.out.1 (by simp [putD_len]) (by simp) (by omega) (by omega) H4.out.2.2) ?_
          rintro e x5 ⟨rfl, c1, d1⟩
          have H5 : Hid (isB72 b b ((((([] ++ putD k 4 ++ [45]) ++ putD M 2 ++ [45]) ++ putD Dn 2 ++ [95]) ++ putD H 2 ++ [58]) ++ putD Mi 2 ++ [58]) x5 ∧ Below b w5 x5 ∧ b ≤ x5.heap.size) := ⟨c1, H4.out.2.1.trans d1, Nat.le_trans H4.out.2.2 d1.size⟩
          clear c1 d1 H4
          go_wp2_with fail
          refine Calls.mono (dateput_c b b _ [] Sx 2 _ H5.out.1 (by simp [putD_len]) (by simp) (by omega) (by omega) H5.out.2.2) ?_
          rintro e x6 ⟨rfl, c1, d1⟩
          have H6 : Hid (isB72 b b (((((([] ++ putD k 4 ++ [45]) ++ putD M 2 ++ [45]) ++ putD Dn 2 ++ [95]) ++ putD H 2 ++ [58]) ++ putD Mi 2 ++ [58]) ++ putD Sx 2 ++ []) x6 ∧ Below b w5 x6 ∧ b ≤ x6.heap.size) := ⟨c1, H5.out.2.1.trans d1, Nat.le_trans H5.out.2.2 d1.size⟩
          clear c1 d1 H5
          go_wp2_with fail
          refine Calls.mono (Tryz.Builder_String_any b b _ _ H6.out.1 H6.out.2.2) ?_
          rintro e x7 ⟨rfl, d1⟩
          have H7 : Hid (Below w.heap.size w x7) := HB5.out.trans ((H6.out.2.1.trans d1).mono (by rw [← hb]; exact HB5.out.size))
          clear d1 H6
          have HT : Hid (((((([] ++ putD k 4 ++ [45]) ++ putD M 2 ++ [45]) ++ putD Dn 2 ++ [95]) ++ putD H 2 ++ [58]) ++ putD Mi 2 ++ [58]) ++ putD Sx 2 ++ [] = dateT k M Dn H Mi Sx) := by
            unfold Hid dateT
            rw [putD_4, putD_2, putD_2, putD_2, putD_2, putD_2]
            simp only [List.nil_append, List.append_nil, List.append_assoc]
          rw [HT.out, ← HF.out]
          clear g1 g2 g3 g4 g5 g6
          go_wp2
          go_ret2
          exact ⟨rfl, H7.out⟩
section
variable {G : Nat → Option (List D)}
theorem dput_no (n : Int) (h : ¬ (0 ≤ n ∧ n < (maxN : Int))) : Spec Tryz.prog G 132 [.c (.v (.int .i64 n))] (.many [.c (.v (.string ⟨#[]⟩)), .c (.v (.bool false))]) := by
  rw [maxN_eq] at h
  have a1 := ahead_m (G := G) 10000 (by omega)
  rw [max_val] at a1
  unfold iD at a1
  rw [show ((3652425 : Nat) : Int) = 3652425 from rfl, show ((10000 : Nat) : Int) = 10000 from rfl] at a1
  by_cases h0 : n < 0
  · have b1 : decide (n < 0) = true := by simpa using h0
    refine spec_of Tryz.func132 rfl rfl rfl (by kernel_rfl) rfl fun K => ?_
    (repeat' (first | with_reducible (first | refine zA fun Kn hK => ?_ | refine zB (by kernel_rfl) ?_ | refine Nx.go ?_ | go_step) | fail | with_reducible (first | refine zI ?_ | refine zJ ?_ | refine zK ?_ ?_ | refine zL ?_ ?_ | refine zR (by kernel_rfl) ?_) | simp (maxSteps := 9999999) (disch := omega) only [wq] | (with_reducible refine zM (fun hb => ?_) (fun hb => ?_) <;> (try simp only [hb])) | (with_reducible refine And.intro (by first | omega | (simp; done) | (simp; omega)) ?_) | simp (maxSteps := 9999999) (implicitDefEqProofs := false) only [go_sem, b1, decide_true] | fail))
  · have b1 : decide (n < 0) = false := by simpa using h0
    have b2 : decide (n ≥ 3652425 * 86400) = true := by
      rw [decide_eq_true_iff]
      omega
    refine spec_of Tryz.func132 rfl rfl rfl (by kernel_rfl) rfl fun K => ?_
    (repeat' (first | with_reducible (first | refine zA fun Kn hK => ?_ | refine zB (by kernel_rfl) ?_ | refine Nx.go ?_ | go_step) | (refine ⟨_, a1, ?_⟩) | with_reducible (first | refine zI ?_ | refine zJ ?_ | refine zK ?_ ?_ | refine zL ?_ ?_ | refine zR (by kernel_rfl) ?_) | simp (maxSteps := 9999999) (disch := omega) only [wq] | (with_reducible refine zM (fun hb => ?_) (fun hb => ?_) <;> (try simp only [hb])) | (with_reducible refine And.intro (by first | omega | (simp; done) | (simp; omega)) ?_) | simp (maxSteps := 9999999) (implicitDefEqProofs := false) only [go_sem, b1, b2, decide_true] | fail))
theorem dput_m (n : Nat) (h : n < maxN) : Spec Tryz.prog G 132 [.c (.v (.int .i64 (n : Int)))] (.many [.c (.v (.string ⟨(dateS n).toArray⟩)), .c (.v (.bool true))]) := by
  refine Spec.mk0 rfl ?_
  intro w S vs hS hT hA
  obtain ⟨hl, hc⟩ := hA
  match vs, hl with
  | [u], _ =>
  have hu : RD w S (.v (.int .i64 (n : Int))) u := hc 0 _ _ rfl rfl
  obtain rfl : u = .int .i64 (n : Int) := by
    cases hu
    rfl
  refine Calls.mono (dput_yes n h w) ?_
  rintro e w' ⟨rfl, hB⟩
  refine ⟨⟨hB.os, hB.tape, hB.output, hB.size, fun k hk _ => hB.block k hk⟩, [.string ⟨(dateS n).toArray⟩, .bool true], rfl, rfl, fun i x v hx hv => ?_⟩
  match i with
  | 0 =>
    simp only [List.getElem?_cons_zero, Option.some.injEq] at hx hv
    subst hx hv
    exact .v _ rfl
  | 1 =>
    simp only [List.getElem?_cons_succ, List.getElem?_cons_zero, Option.some.injEq] at hx hv
    subst hx hv
    exact .v _ rfl
  | i + 2 => simp at hx
theorem datePut_m (n : Int) : Spec Tryz.prog G 132 [.c (.v (.int .i64 n))] (dateIn n) := by
  unfold dateIn
  by_cases h : 0 ≤ n ∧ n < (maxN : Int)
  · rw [decide_eq_true h, if_pos rfl]
    obtain ⟨m, rfl⟩ : ∃ m : Nat, n = (m : Int) := ⟨n.toNat, by omega⟩
    exact dput_m m (by omega)
  · rw [decide_eq_false h, if_neg (by decide)]
    exact dput_no n h
end
end Go.Proofs.YtfammdfpgccnfaaGreatDoor
/- Windows: the program's functions. -/
namespace Go.Proofs.YtfammdfpgccnfaaGreatDoor
open Go.RowKit
@[go_sem] def wdC (w : Wd) : List D := [.v (.bool w.aft), .v (.int .i64 w.frm), .v (.bool w.unt), .v (.int .i64 w.to)]
theorem maxN_val : maxN = 315569520000 := by
  unfold maxN
  rfl
section
variable {G : Nat → Option (List D)}
theorem side_m (is : Bool) (n : Int) : Spec Tryz.prog G 131 [.c (.v (.bool is)), .c (.v (.int .i64 n))] (.one (.c (.v (.bool (sideW is n))))) := by
  have hd := datePut_m (G := G) n
  have e : (n == 0) = decide (n = 0) := Bool.beq_eq_decide_eq _ _
  unfold sideW
  unfold dateIn at hd
  generalize decide (0 ≤ n ∧ n < (maxN : Int)) = q at *
  generalize decide (n = 0) = z at *
  generalize (if q = true then dateS n.toNat else []) = s at *
  cases is <;> cases q <;> cases z
  all_goals
    refine spec_of Tryz.func131 rfl rfl rfl (by kernel_rfl) rfl fun K => ?_
    (repeat' (first | with_reducible (first | refine zA fun Kn hK => ?_ | refine zB (by kernel_rfl) ?_ | refine Nx.go ?_ | go_step) | (refine ⟨_, hd, ?_⟩) | with_reducible (first | refine zI ?_ | refine zJ ?_ | refine zK ?_ ?_ | refine zL ?_ ?_ | refine zR (by kernel_rfl) ?_) | simp (maxSteps := 9999999) (disch := omega) only [wq] | (with_reducible refine zM (fun hb => ?_) (fun hb => ?_) <;> (try simp only [hb])) | (with_reducible refine And.intro (by first | omega | (simp; done) | (simp; omega)) ?_) | simp (maxSteps := 9999999) (implicitDefEqProofs := false) only [go_sem, e, decide_true] | fail))
    all_goals rfl
theorem wmay_m (w : Wd) : Spec Tryz.prog G 114 [.g (wdC w)] (.one (.c (.v (.bool w.may)))) := by
  have s1 := side_m (G := G) w.aft w.frm
  have s2 := side_m (G := G) w.unt w.to
  unfold Wd.may
  generalize sideW w.aft w.frm = q1 at *
  generalize sideW w.unt w.to = q2 at *
  unfold wdC
  cases q1
  all_goals
    refine spec_of Tryz.func114 rfl rfl rfl (by kernel_rfl) rfl fun K => ?_
    (repeat' (first | with_reducible (first | refine zA fun Kn hK => ?_ | refine zB (by kernel_rfl) ?_ | refine Nx.go ?_ | go_step) | (refine ⟨_, s1, ?_⟩) | (refine ⟨_, s2, ?_⟩) | with_reducible (first | refine zI ?_ | refine zJ ?_ | refine zK ?_ ?_ | refine zL ?_ ?_ | refine zR (by kernel_rfl) ?_) | simp (maxSteps := 9999999) (disch := omega) only [wq] | (with_reducible refine zM (fun hb => ?_) (fun hb => ?_) <;> (try simp only [hb])) | (with_reducible refine And.intro (by first | omega | (simp; done) | (simp; omega)) ?_) | simp (maxSteps := 9999999) (implicitDefEqProofs := false) only [go_sem, decide_true] | fail))
    all_goals rfl
theorem wend_m (word : List UInt8) (n : Int) (hl : word.length ≤ 1000) (h : 0 ≤ n ∧ n < (maxN : Int)) : Spec Tryz.prog G 115 [.c (.v (.string ⟨word.toArray⟩)), .c (.v (.int .i64 n))] (.one (.g (treeC (endV word n)))) := by
  have hm := maxN_val
  have hd := datePut_m (G := G) n
  unfold dateIn at hd
  rw [decide_eq_true h, if_pos rfl] at hd
  have a1 := atom_m (G := G) word (by omega)
  have a2 := atom_m (G := G) (dateS n.toNat) (by rw [dateS_len]; omega)
  unfold endV
  generalize dateS n.toNat = s at *
  have e1 := treeC_mk false false [] word []
  have e2 := treeC_mk false false [] s []
  rw [e1] at a1
  rw [e2] at a2
  have hlist := list_m' (G := G) [atomT word, atomT s] rfl rfl (by simp)
  simp only [List.flatMap_cons, List.flatMap_nil, atomT, e1, e2, List.cons_append, List.nil_append, List.length_cons, List.length_nil] at hlist
  rw [listT, treeC_mk]
  rw [listT, treeC_mk] at hlist
  simp only [atomT]
  unfold bytesD at *
  simp only [List.flatMap_nil, List.length_nil, List.map_nil] at *
  refine spec_of Tryz.func115 rfl rfl rfl (by kernel_rfl) rfl fun K => ?_
  (repeat' (first | with_reducible (first | refine zA fun Kn hK => ?_ | refine zB (by kernel_rfl) ?_ | refine Nx.go ?_ | go_step) | (refine ⟨none, ?_⟩) | (refine ⟨_, hd, ?_⟩) | (refine ⟨_, a1, ?_⟩) | (refine ⟨_, a2, ?_⟩) | (refine ⟨_, hlist, ?_⟩) | with_reducible (first | refine zI ?_ | refine zJ ?_ | refine zK ?_ ?_ | refine zL ?_ ?_ | refine zR (by kernel_rfl) ?_) | simp (maxSteps := 9999999) (disch := omega) only [wq] | (with_reducible refine zM (fun hb => ?_) (fun hb => ?_) <;> (try simp only [hb])) | (with_reducible refine And.intro (by first | omega | (simp; done) | (simp; omega)) ?_) | simp (maxSteps := 9999999) (implicitDefEqProofs := false) only [go_sem, List.length_map, List.length_cons, List.length_nil, decide_true] | fail))
  all_goals trace_state
end
end Go.Proofs.YtfammdfpgccnfaaGreatDoor
/- Windows: the program's Put. -/
namespace Go.Proofs.YtfammdfpgccnfaaGreatDoor
open Go.RowKit
def wputD (w : Wd) : DR := if w.may = true then .many [.g (treeC w.val), .c (.v (.int .i64 0))] else .many [.g zeroC, .c (.v (.int .i64 11))]
section
variable {G : Nat → Option (List D)}
theorem wput_m (w : Wd) : Spec Tryz.prog G 87 [.g (wdC w)] (wputD w) := by
  have hm := wmay_m (G := G) w
  unfold wputD
  by_cases hmay : w.may = true
  · rw [if_pos hmay]
    rw [hmay] at hm
    obtain ⟨aft, frm, unt, to⟩ := w
    rw [may_mk] at hmay
    have h1 : sideW aft frm = true := by
      revert hmay
      cases sideW aft frm <;> simp
    have h2 : sideW unt to = true := by
      revert hmay
      cases sideW aft frm <;> simp
    clear hmay
    have a1 := atom_m (G := G) wValid (by decide)
    have e1 := treeC_mk false false [] wValid []
    rw [e1] at a1
    cases aft <;> cases unt
    · rw [show (Wd.mk false frm false to).val = listT [atomT wValid] from rfl]
      have hl := list_m' (G := G) [atomT wValid] (n := 1) rfl rfl (by simp)
      simp only [List.flatMap_cons, List.flatMap_nil, atomT, e1, List.cons_append, List.nil_append, List.append_nil, List.length_cons, List.length_nil] at hl
      rw [listT, treeC_mk] at hl ⊢
      simp only [List.flatMap_cons, List.flatMap_nil, atomT, e1, List.cons_append, List.nil_append, List.append_nil, List.length_cons, List.length_nil] at hl ⊢
      unfold wdC at *
      try unfold wNB at *
      try unfold wNA at *
      unfold wValid bytesD at *
      refine spec_of Tryz.func87 rfl rfl rfl (by kernel_rfl) rfl fun K => ?_
      (repeat' (first | with_reducible (first | refine zA fun Kn hK => ?_ | refine zB (by kernel_rfl) ?_ | refine Nx.go ?_ | go_step) | (refine ⟨none, ?_⟩) | (refine ⟨_, hm, ?_⟩) | (refine ⟨_, a1, ?_⟩) | (refine ⟨_, hl, ?_⟩) | with_reducible (first | refine zI ?_ | refine zJ ?_ | refine zK ?_ ?_ | refine zL ?_ ?_ | refine zR (by kernel_rfl) ?_) | simp (maxSteps := 9999999) (disch := omega) only [wq] | (with_reducible refine zM (fun hb => ?_) (fun hb => ?_) <;> (try simp only [hb])) | (with_reducible refine And.intro (by first | omega | (simp; done) | (simp; omega)) ?_) | simp (maxSteps := 9999999) (implicitDefEqProofs := false) only [go_sem, rep1, List.length_map, List.length_cons, List.length_nil, decide_true] | fail))
      all_goals trace_state
    · rw [show (Wd.mk false frm true to).val = listT [atomT wValid, endV wNA to] from rfl]
      have b2 := wend_m (G := G) wNA to (by decide) (side_t h2)
      rw [treeC_eq (endV wNA to)] at b2
      generalize endV wNA to = E2 at *
      have f2 := treeC_eq E2
      have hl := list_m' (G := G) [atomT wValid, E2] (n := 2) rfl rfl (by simp)
      simp only [List.flatMap_cons, List.flatMap_nil, atomT, e1, f2, List.cons_append, List.nil_append, List.append_nil, List.length_cons, List.length_nil] at hl
      rw [listT, treeC_mk] at hl ⊢
      simp only [List.flatMap_cons, List.flatMap_nil, atomT, e1, f2, List.cons_append, List.nil_append, List.append_nil, List.length_cons, List.length_nil] at hl ⊢
      unfold wdC at *
      try unfold wNB at *
      try unfold wNA at *
      unfold wValid bytesD at *
      refine spec_of Tryz.func87 rfl rfl rfl (by kernel_rfl) rfl fun K => ?_
      (repeat' (first | with_reducible (first | refine zA fun Kn hK => ?_ | refine zB (by kernel_rfl) ?_ | refine Nx.go ?_ | go_step) | (refine ⟨none, ?_⟩) | (refine ⟨_, hm, ?_⟩) | (refine ⟨_, a1, ?_⟩) | (refine ⟨_, b2, ?_⟩) | (refine ⟨_, hl, ?_⟩) | with_reducible (first | refine zI ?_ | refine zJ ?_ | refine zK ?_ ?_ | refine zL ?_ ?_ | refine zR (by kernel_rfl) ?_) | simp (maxSteps := 9999999) (disch := omega) only [wq] | (with_reducible refine zM (fun hb => ?_) (fun hb => ?_) <;> (try simp only [hb])) | (with_reducible refine And.intro (by first | omega | (simp; done) | (simp; omega)) ?_) | simp (maxSteps := 9999999) (implicitDefEqProofs := false) only [go_sem, rep1, List.length_map, List.length_cons, List.length_nil, decide_true] | fail))
      all_goals trace_state
    · rw [show (Wd.mk true frm false to).val = listT [atomT wValid, endV wNB frm] from rfl]
      have b1 := wend_m (G := G) wNB frm (by decide) (side_t h1)
      rw [treeC_eq (endV wNB frm)] at b1
      generalize endV wNB frm = E1 at *
      have f1 := treeC_eq E1
      have hl := list_m' (G := G) [atomT wValid, E1] (n := 2) rfl rfl (by simp)
      simp only [List.flatMap_cons, List.flatMap_nil, atomT, e1, f1, List.cons_append, List.nil_append, List.append_nil, List.length_cons, List.length_nil] at hl
      rw [listT, treeC_mk] at hl ⊢
      simp only [List.flatMap_cons, List.flatMap_nil, atomT, e1, f1, List.cons_append, List.nil_append, List.append_nil, List.length_cons, List.length_nil] at hl ⊢
      unfold wdC at *
      try unfold wNB at *
      try unfold wNA at *
      unfold wValid bytesD at *
      refine spec_of Tryz.func87 rfl rfl rfl (by kernel_rfl) rfl fun K => ?_
      (repeat' (first | with_reducible (first | refine zA fun Kn hK => ?_ | refine zB (by kernel_rfl) ?_ | refine Nx.go ?_ | go_step) | (refine ⟨none, ?_⟩) | (refine ⟨_, hm, ?_⟩) | (refine ⟨_, a1, ?_⟩) | (refine ⟨_, b1, ?_⟩) | (refine ⟨_, hl, ?_⟩) | with_reducible (first | refine zI ?_ | refine zJ ?_ | refine zK ?_ ?_ | refine zL ?_ ?_ | refine zR (by kernel_rfl) ?_) | simp (maxSteps := 9999999) (disch := omega) only [wq] | (with_reducible refine zM (fun hb => ?_) (fun hb => ?_) <;> (try simp only [hb])) | (with_reducible refine And.intro (by first | omega | (simp; done) | (simp; omega)) ?_) | simp (maxSteps := 9999999) (implicitDefEqProofs := false) only [go_sem, rep1, List.length_map, List.length_cons, List.length_nil, decide_true] | fail))
      all_goals trace_state
    · rw [show (Wd.mk true frm true to).val = listT [atomT wValid, endV wNB frm, endV wNA to] from rfl]
      have b1 := wend_m (G := G) wNB frm (by decide) (side_t h1)
      rw [treeC_eq (endV wNB frm)] at b1
      have b2 := wend_m (G := G) wNA to (by decide) (side_t h2)
      rw [treeC_eq (endV wNA to)] at b2
      generalize endV wNB frm = E1 at *
      generalize endV wNA to = E2 at *
      have f1 := treeC_eq E1
      have f2 := treeC_eq E2
      have hl := list_m' (G := G) [atomT wValid, E1, E2] (n := 3) rfl rfl (by simp)
      simp only [List.flatMap_cons, List.flatMap_nil, atomT, e1, f1, f2, List.cons_append, List.nil_append, List.append_nil, List.length_cons, List.length_nil] at hl
      rw [listT, treeC_mk] at hl ⊢
      simp only [List.flatMap_cons, List.flatMap_nil, atomT, e1, f1, f2, List.cons_append, List.nil_append, List.append_nil, List.length_cons, List.length_nil] at hl ⊢
      unfold wdC at *
      try unfold wNB at *
      try unfold wNA at *
      unfold wValid bytesD at *
      refine spec_of Tryz.func87 rfl rfl rfl (by kernel_rfl) rfl fun K => ?_
      (repeat' (first | with_reducible (first | refine zA fun Kn hK => ?_ | refine zB (by kernel_rfl) ?_ | refine Nx.go ?_ | go_step) | (refine ⟨none, ?_⟩) | (refine ⟨_, hm, ?_⟩) | (refine ⟨_, a1, ?_⟩) | (refine ⟨_, b1, ?_⟩) | (refine ⟨_, b2, ?_⟩) | (refine ⟨_, hl, ?_⟩) | with_reducible (first | refine zI ?_ | refine zJ ?_ | refine zK ?_ ?_ | refine zL ?_ ?_ | refine zR (by kernel_rfl) ?_) | simp (maxSteps := 9999999) (disch := omega) only [wq] | (with_reducible refine zM (fun hb => ?_) (fun hb => ?_) <;> (try simp only [hb])) | (with_reducible refine And.intro (by first | omega | (simp; done) | (simp; omega)) ?_) | simp (maxSteps := 9999999) (implicitDefEqProofs := false) only [go_sem, rep1, List.length_map, List.length_cons, List.length_nil, decide_true] | fail))
      all_goals trace_state
  · rw [if_neg hmay]
    rw [show w.may = false by cases h : w.may <;> simp_all] at hm
    unfold wdC at *
    refine spec_of Tryz.func87 rfl rfl rfl (by kernel_rfl) rfl fun K => ?_
    (repeat' (first | with_reducible (first | refine zA fun Kn hK => ?_ | refine zB (by kernel_rfl) ?_ | refine Nx.go ?_ | go_step) | (refine ⟨_, hm, ?_⟩) | with_reducible (first | refine zI ?_ | refine zJ ?_ | refine zK ?_ ?_ | refine zL ?_ ?_ | refine zR (by kernel_rfl) ?_) | simp (maxSteps := 9999999) (disch := omega) only [wq] | (with_reducible refine zM (fun hb => ?_) (fun hb => ?_) <;> (try simp only [hb])) | (with_reducible refine And.intro (by first | omega | (simp; done) | (simp; omega)) ?_) | simp (maxSteps := 9999999) (implicitDefEqProofs := false) only [go_sem, decide_true] | fail))
    all_goals rfl
end
end Go.Proofs.YtfammdfpgccnfaaGreatDoor
/- Tags: the program's ends. -/
namespace Go.Proofs.YtfammdfpgccnfaaGreatDoor
open Go.RowKit
section
variable {G : Nat → Option (List D)}
end
end Go.Proofs.YtfammdfpgccnfaaGreatDoor
/- Tags: the document's tag of a value. -/
namespace Go.Proofs.YtfammdfpgccnfaaGreatDoor
open Go.RowKit
theorem tagC_mk (k : UInt8) (d : List UInt8) (l : List Tg) (o : UInt8) (lo hi : Bd) : tagC (.mk k d l o lo hi) = [bD k, bytesD d, .sl l.length (l.flatMap tagC), bD o, .v (.bool lo.is), .v (.bool lo.opn), bytesD lo.txt, .v (.bool hi.is), .v (.bool hi.opn), bytesD hi.txt] := tagC_eq _
section
variable {G : Nat → Option (List D)}
end
end Go.Proofs.YtfammdfpgccnfaaGreatDoor
/- Tags: the program's ranges. -/
namespace Go.Proofs.YtfammdfpgccnfaaGreatDoor
open Go.RowKit
section
variable {G : Nat → Option (List D)}
end
end Go.Proofs.YtfammdfpgccnfaaGreatDoor
/- Tags: the program's tag of a value. -/
namespace Go.Proofs.YtfammdfpgccnfaaGreatDoor
open Go.RowKit
section
variable {G : Nat → Option (List D)}
end
end Go.Proofs.YtfammdfpgccnfaaGreatDoor
/- Tags: the program's Same, concrete, Request; the document's. -/
namespace Go.Proofs.YtfammdfpgccnfaaGreatDoor
open Go.RowKit
section
variable {G : Nat → Option (List D)}
noncomputable def sameLT (l m : List Tg) : Bool := @decide (l = m) (Classical.propDecidable _)
theorem sameLT_t {l m : List Tg} (h : l = m) : sameLT l m = true := by
  unfold sameLT
  exact @decide_eq_true _ (Classical.propDecidable _) h
theorem sameLT_f {l m : List Tg} (h : l ≠ m) : sameLT l m = false := by
  unfold sameLT
  exact @decide_eq_false _ (Classical.propDecidable _) h
theorem eqfuncT_m (l m : List Tg) (hl : l.length ≤ 100000000)
    (ih : ∀ x ∈ l, ∀ (u : Tg) (cs ds : List D), tagC x = cs → tagC u = ds → Spec Tryz.prog G 41 [.g cs, .g ds] (.one (.c (.v (.bool (x.same u)))))) :
    Spec Tryz.prog G 81 [.c (.sl l.length (l.flatMap tagC)), .c (.sl m.length (m.flatMap tagC)), .c (.v (.func (.func 41) #[] #[]))] (.one (.c (.v (.bool (sameLT l m))))) := by
  refine spec_of Tryz.func81 rfl rfl rfl (by kernel_rfl) rfl fun K => ?_
  by_cases hn : l.length = m.length
  · have d1 : ((l.length : Int) == (m.length : Int)) = true := by simp [hn]
    (repeat' (first | with_reducible (first | refine zA fun Kn hK => ?_ | refine zB (by kernel_rfl) ?_ | refine Nx.go ?_ | go_step) | fail | with_reducible (first | refine zI ?_ | refine zJ ?_ | refine zK ?_ ?_ | refine zL ?_ ?_ | refine zR (by kernel_rfl) ?_) | simp (maxSteps := 9999999) (disch := omega) only [wq] | (with_reducible refine zM (fun hb => ?_) (fun hb => ?_) <;> (try simp only [hb])) | (with_reducible refine And.intro (by first | omega | (simp; done) | (simp; omega)) ?_) | simp (maxSteps := 9999999) (implicitDefEqProofs := false) only [go_sem, d1] | fail))
    refine sound_loopR (fun x : {k : Nat // k ≤ l.length ∧ l.take k = m.take k} => ⟨[(1, vD (.sl m.length (m.flatMap tagC))), (2, vD (.v (.func (.func 41) #[] #[]))), (15, vD (.sl l.length (l.flatMap tagC))), (16, vI l.length), (17, vI x.1)], []⟩) (fun x => l.length - x.1) ⟨0, by simp⟩ [] (by (iterate 2 ((try simp (maxSteps := 9999999) (implicitDefEqProofs := false) only [go_sem, true_and]); (try simp (maxSteps := 9999999) (disch := omega) only [wq]))); try simp) (fun ⟨k, hk, hall⟩ => ?_)
    by_cases hlt : k < l.length
    · obtain ⟨x, hx⟩ : ∃ x, l[k]? = some x := ⟨_, List.getElem?_eq_getElem hlt⟩
      obtain ⟨y, hy⟩ : ∃ y, m[k]? = some y := ⟨_, List.getElem?_eq_getElem (by omega)⟩
      have hb : decide ((k : Int) < (l.length : Int)) = true := by simpa using hlt
      have hlm : k < m.length := by omega
      (repeat' (first | with_reducible (first | refine zA fun Kn hK => ?_ | refine zB (by kernel_rfl) ?_ | refine Nx.go ?_ | go_step) | (refine ⟨_, ih x (List.mem_of_getElem? hx) y _ _ rfl rfl, ?_⟩) | with_reducible (first | refine zI ?_ | refine zJ ?_ | refine zK ?_ ?_ | refine zL ?_ ?_ | refine zR (by kernel_rfl) ?_) | simp (maxSteps := 9999999) (disch := omega) only [wq] | (with_reducible refine zM (fun hb => ?_) (fun hb => ?_) <;> (try simp only [hb])) | (with_reducible refine And.intro (by first | omega | (simp; done) | (simp; omega)) ?_) | simp (maxSteps := 9999999) (implicitDefEqProofs := false) only [go_sem, hb, flat_at tagC_len hx, flat_at tagC_len hy, List.length_map] | fail))
      · refine ⟨[], ⟨k + 1, hlt, ?_⟩, ?_⟩
        · rw [List.take_add_one, List.take_add_one, hx, hy, hall, tsame_of hb]
        · (iterate 2 ((try simp (maxSteps := 9999999) (implicitDefEqProofs := false) only [go_sem, true_and]); (try simp (maxSteps := 9999999) (disch := omega) only [wq])))
          try (simp only [ijq, true_and, and_true]; first | done | omega | (split <;> omega) | (simp; done) | (simp; omega))
      · rw [sameLT_f]
        rintro rfl
        rw [hx] at hy
        injection hy with hy
        rw [tsame_t hy] at hb
        cases hb
    · have hb : decide ((k : Int) < (l.length : Int)) = false := by simpa using hlt
      obtain rfl : k = l.length := by omega
      rw [List.take_length, hn, List.take_length] at hall
      (repeat' (first | with_reducible (first | refine zA fun Kn hK => ?_ | refine zB (by kernel_rfl) ?_ | refine Nx.go ?_ | go_step) | fail | with_reducible (first | refine zI ?_ | refine zJ ?_ | refine zK ?_ ?_ | refine zL ?_ ?_ | refine zR (by kernel_rfl) ?_) | simp (maxSteps := 9999999) (disch := omega) only [wq] | (with_reducible refine zM (fun hb => ?_) (fun hb => ?_) <;> (try simp only [hb])) | (with_reducible refine And.intro (by first | omega | (simp; done) | (simp; omega)) ?_) | simp (maxSteps := 9999999) (implicitDefEqProofs := false) only [go_sem, hb] | fail))
      rw [sameLT_t hall]
  · have d1 : ((l.length : Int) == (m.length : Int)) = false := by
      rw [beq_eq_false_iff_ne]
      omega
    (repeat' (first | with_reducible (first | refine zA fun Kn hK => ?_ | refine zB (by kernel_rfl) ?_ | refine Nx.go ?_ | go_step) | fail | with_reducible (first | refine zI ?_ | refine zJ ?_ | refine zK ?_ ?_ | refine zL ?_ ?_ | refine zR (by kernel_rfl) ?_) | simp (maxSteps := 9999999) (disch := omega) only [wq] | (with_reducible refine zM (fun hb => ?_) (fun hb => ?_) <;> (try simp only [hb])) | (with_reducible refine And.intro (by first | omega | (simp; done) | (simp; omega)) ?_) | simp (maxSteps := 9999999) (implicitDefEqProofs := false) only [go_sem, d1] | fail))
    rw [sameLT_f]
    rintro rfl
    exact hn rfl
theorem tsame_m : ∀ (t u : Tg) (cs ds : List D), tagC t = cs → tagC u = ds → t.wt ≤ 30000000 → Spec Tryz.prog G 41 [.g cs, .g ds] (.one (.c (.v (.bool (t.same u))))) := Tg.ind fun t ih u cs ds hcs hds hw => by
  subst hcs hds
  have hr := prsame_m (G := G) t.ord t.lo t.hi u.ord u.lo u.hi
  have hi := rgSame_iff (o := t.ord) (a := t.lo) (b := t.hi) (o' := u.ord) (a' := u.lo) (b' := u.hi)
  have he := u8_beq t.kind u.kind
  have hq := equal_m (G := G) t.data u.data
  have hlk := t.wt_kids
  have hk := eqfuncT_m (G := G) t.kids u.kids (by omega) (fun x hx v cs ds h1 h2 => ih x hx v cs ds h1 h2 (by have := Tg.wt_kid hx; omega))
  have hs : t.same u = (t.kind == u.kind && (t.data == u.data) && rgSame t.ord t.lo t.hi u.ord u.lo u.hi && sameLT t.kids u.kids) := by
    rw [Bool.eq_iff_iff]
    simp only [Bool.and_eq_true, beq_iff_eq]
    refine ⟨fun h => ?_, fun ⟨⟨⟨h1, h2⟩, h3⟩, h4⟩ => ?_⟩
    · cases tsame_of h
      exact ⟨⟨⟨rfl, rfl⟩, hi.2 ⟨rfl, rfl, rfl⟩⟩, sameLT_t rfl⟩
    · refine tsame_t (Tg.ext_iff.2 ⟨h1, h2, hi.1 h3, ?_⟩)
      refine Classical.byContradiction fun hn => ?_
      rw [sameLT_f hn] at h4
      cases h4
  rw [hs]
  clear hs hi ih
  rw [tagC_eq t, tagC_eq u]
  generalize rgSame t.ord t.lo t.hi u.ord u.lo u.hi = q3 at *
  generalize sameLT t.kids u.kids = q4 at *
  generalize (t.data == u.data) = q2 at *
  generalize (t.kind == u.kind) = q1 at *
  unfold rgD bD bytesD at *
  cases q1 <;> cases q2 <;> cases q3
  all_goals
    refine spec_of Tryz.func41 rfl rfl rfl (by kernel_rfl) rfl fun K => ?_
    (repeat' (first | with_reducible (first | refine zA fun Kn hK => ?_ | refine zB (by kernel_rfl) ?_ | refine Nx.go ?_ | go_step) | (refine ⟨_, hq, ?_⟩) | (refine ⟨_, hr, ?_⟩) | (refine ⟨_, hk, ?_⟩) | with_reducible (first | refine zI ?_ | refine zJ ?_ | refine zK ?_ ?_ | refine zL ?_ ?_ | refine zR (by kernel_rfl) ?_) | simp (maxSteps := 9999999) (disch := omega) only [wq] | (with_reducible refine zM (fun hb => ?_) (fun hb => ?_) <;> (try simp only [hb])) | (with_reducible refine And.intro (by first | omega | (simp; done) | (simp; omega)) ?_) | simp (maxSteps := 9999999) (implicitDefEqProofs := false) only [go_sem, he] | fail))
    all_goals (try rfl)
end
end Go.Proofs.YtfammdfpgccnfaaGreatDoor
/- Certificates and entries as data; the program's pair, issuer, rights. -/
namespace Go.Proofs.YtfammdfpgccnfaaGreatDoor
open Go.RowKit
def ctC (c : Ct) : List D := .v (.bool c.ks) :: bytesD c.kd :: bytesD c.label :: (sbC c.sub ++ (.v (.bool c.dlg) :: (tagC c.tag ++ wdC c.win)))
/-- A subject's cells, the first one known. -/
theorem sb_cells (s : Sb) : ∃ a b c d e : D, sbC s = [.v (.int .u8 (s.kind.toNat : Int)), a, b, c, d, e] := ⟨_, _, _, _, _, sbC_eq s⟩
theorem tag_cells (t : Tg) : ∃ a b c d e f g h i j : D, tagC t = [a, b, c, d, e, f, g, h, i, j] := ⟨_, _, _, _, _, _, _, _, _, _, tagC_eq t⟩
/-! windows, held against each other -/
def Wd.in64 (w : Wd) : Prop := (-9223372036854775808 ≤ w.frm ∧ w.frm ≤ 9223372036854775807) ∧ (-9223372036854775808 ≤ w.to ∧ w.to ≤ 9223372036854775807)
def wdK4 (w : Wd) : List C := [.d (.v (.bool w.aft)), .d (.v (.int .i64 w.frm)), .d (.v (.bool w.unt)), .d (.v (.int .i64 w.to))]
def wdLit (w : Wd) : List Lit := [.bool w.aft, .int .i64 w.frm, .bool w.unt, .int .i64 w.to]
theorem win_key {w : Wd} (h : w.in64) : KeyL Tryz.prog 37 (wdK4 w) (wdLit w) := by
  obtain ⟨⟨h1, h2⟩, h3, h4⟩ := h
  have w1 : (Lit.int .i64 w.frm).wf = true := by
    simp only [Lit.wf, Bool.and_eq_true, decide_eq_true_eq]
    exact ⟨h1, h2⟩
  have w2 : (Lit.int .i64 w.to).wf = true := by
    simp only [Lit.wf, Bool.and_eq_true, decide_eq_true_eq]
    exact ⟨h3, h4⟩
  have b : ∀ q, Program.keyLits Tryz.prog 1 4 [.bool q] = some [.bool q] := fun q => by
    unfold Program.keyLits
    simp only [Tryz.underlying4]
  have i : ∀ n, (Lit.int .i64 n).wf = true → Program.keyLits Tryz.prog 1 2 [.int .i64 n] = some [.int .i64 n] := fun n hn => by
    unfold Program.keyLits
    simp only [Tryz.underlying2]
    rw [if_pos ⟨trivial, hn⟩]
  refine ⟨2, [.bool w.aft, .int .i64 w.frm, .bool w.unt, .int .i64 w.to], rfl, by kernel_rfl, ?_⟩
  unfold Program.keyLits
  simp only [Tryz.underlying37]
  rw [if_pos ⟨by kernel_rfl, by kernel_rfl⟩]
  have c1 : Tryz.prog.cellsOf 4 = 1 := by kernel_rfl
  have c2 : Tryz.prog.cellsOf 2 = 1 := by kernel_rfl
  simp only [List.mapM_cons, List.mapM_nil, c1, c2, List.drop_zero, List.drop_succ_cons, List.take_succ_cons, List.take_zero, b, i _ w1, i _ w2, Option.pure_def, Option.bind_eq_bind, Option.bind_some, Option.map_some]
  rfl
theorem win_key_eq {x y : Wd} {b : Bool} (h : b = decide (x = y)) : (b = true) ↔ wdLit x = wdLit y := by
  subst h
  rw [decide_eq_true_iff]
  obtain ⟨a, n, u, k⟩ := x
  obtain ⟨a', n', u', k'⟩ := y
  simp [wdLit]
theorem may_64 {w : Wd} (h : w.may = true) : w.in64 := by
  obtain ⟨a, n, u, k⟩ := w
  rw [may_mk, Bool.and_eq_true] at h
  have hm := maxN_eq
  have h1 : 0 ≤ n ∧ n < 315569520000 := by
    cases a with
    | true => have := side_t h.1; omega
    | false => have := side_f h.1; omega
  have h2 : 0 ≤ k ∧ k < 315569520000 := by
    cases u with
    | true => have := side_t h.2; omega
    | false => have := side_f h.2; omega
  unfold Wd.in64
  dsimp only
  omega
theorem none_64 : Wd.none.in64 := may_64 (by decide)
section
variable {G : Nat → Option (List D)}
theorem pair_m (w : List UInt8) (v : Tree) {cs : List D} (hcs : treeC v = cs) (hw : w.length ≤ 1000) : Spec Tryz.prog G 86 [.c (.v (.string ⟨w.toArray⟩)), .g cs] (.one (.g (treeC (pairT w v)))) := by
  subst hcs
  have a0 := atom_m (G := G) w (by omega)
  have hl := list_m (G := G) [atomT w, v] (by simp)
  rw [show treeC (pairT w v) = treeC (.mk true false [] [] [atomT w, v]) from rfl]
  have hL := treeC_eq (.mk true false [] [] [atomT w, v])
  generalize treeC (.mk true false [] [] [atomT w, v]) = O at *
  rw [hL] at hl
  rw [List.flatMap_cons, List.flatMap_cons, List.flatMap_nil, List.append_nil] at hl
  unfold atomT at hl
  rw [treeC_mk] at a0
  rw [treeC_mk] at hl
  rw [treeC_eq v] at hl ⊢
  simp only [List.cons_append, List.nil_append] at hl
  simp only [bD, bytesD] at *
  refine spec_of Tryz.func86 rfl rfl rfl (by kernel_rfl) rfl fun K => ?_
  (repeat' (first | with_reducible (first | refine zA fun Kn hK => ?_ | refine zB (by kernel_rfl) ?_ | refine Nx.go ?_ | go_step) | (refine ⟨none, ?_⟩) | (refine ⟨_, a0, ?_⟩) | (refine ⟨_, hl, ?_⟩) | with_reducible (first | refine zI ?_ | refine zJ ?_ | refine zK ?_ ?_ | refine zL ?_ ?_ | refine zR (by kernel_rfl) ?_) | simp (maxSteps := 9999999) (disch := omega) only [wq] | (with_reducible refine zM (fun hb => ?_) (fun hb => ?_) <;> (try simp only [hb])) | (with_reducible refine And.intro (by first | omega | (simp; done) | (simp; omega)) ?_) | simp (maxSteps := 9999999) (implicitDefEqProofs := false) only [go_sem, true_and, rep1] | fail))
  all_goals (rw [hL]; try rfl)
end
end Go.Proofs.YtfammdfpgccnfaaGreatDoor
/- Subjects, certificates and entries, and how they lie in memory. -/
namespace Go.Proofs.YtfammdfpgccnfaaGreatDoor
open Go.RowKit Go.ChangeShapes Go.WideShapes Go.Deep
/-- How a subject lies in memory: six cells, and what they lead to. -/
def Sb.rd (w : World) (S : Nat → Prop) (cs : List Value) (t : Sb) : Prop :=
  ∃ A1 n1 c1 A2 n2 c2 A3 n3 c3, cs = [u8V t.kind, .bool t.ks, .slice A1 n1 c1, .slice A2 n2 c2, .int .i64 t.k, .slice A3 n3 c3] ∧ Rep.u8.sl w S A1 n1 c1 t.kd ∧ Rep.u8.slice.sl w S A2 n2 c2 t.names ∧
    t.kids.length = n3 ∧ n3 ≤ c3 ∧ c3 ≤ 9223372036854775807 ∧ (0 < n3 → ∃ b o, A3 = some ⟨b, o, Option.none⟩ ∧ S b ∧
      ∀ i x, (hx : t.kids[i]? = some x) → ∃ es, Sb.rd w S es x ∧ ∀ j u, es[j]? = some u → w.cell? ⟨b, o + i * 6 + j, Option.none⟩ = some u)
termination_by SizeOf.sizeOf t
decreasing_by exact Sb.kid_lt (List.mem_of_getElem? hx)
theorem Sb.rd_len {w : World} {S : Nat → Prop} {cs : List Value} {t : Sb} (h : Sb.rd w S cs t) : cs.length = 6 := by
  rw [Sb.rd] at h
  obtain ⟨_, _, _, _, _, _, _, _, _, rfl, _⟩ := h
  rfl
theorem Sb.rd_keep {w w' : World} {S : Nat → Prop} (hk : ∀ p : Addr, S p.block → w'.cell? p = w.cell? p) : ∀ (t : Sb) {cs : List Value}, Sb.rd w S cs t → Sb.rd w' S cs t := by
  refine Sb.ind fun t ih cs h => ?_
  rw [Sb.rd] at h ⊢
  obtain ⟨A1, n1, c1, A2, n2, c2, A3, n3, c3, rfl, h1, h2, h3, h4, h5, h6⟩ := h
  refine ⟨A1, n1, c1, A2, n2, c2, A3, n3, c3, rfl, Rep.sl_keep h1 hk, Rep.sl_keep h2 hk, h3, h4, h5, fun hn => ?_⟩
  obtain ⟨b, o, rfl, hb, hr⟩ := h6 hn
  refine ⟨b, o, rfl, hb, fun i x hx => ?_⟩
  obtain ⟨es, he, hc⟩ := hr i x hx
  exact ⟨es, ih x (List.mem_of_getElem? hx) he, fun j u hu => by rw [hk _ hb]; exact hc j u hu⟩
theorem Sb.rd_more {w : World} {S S' : Nat → Prop} (hS : ∀ b, S b → S' b) : ∀ (t : Sb) {cs : List Value}, Sb.rd w S cs t → Sb.rd w S' cs t := by
  refine Sb.ind fun t ih cs h => ?_
  rw [Sb.rd] at h ⊢
  obtain ⟨A1, n1, c1, A2, n2, c2, A3, n3, c3, rfl, h1, h2, h3, h4, h5, h6⟩ := h
  refine ⟨A1, n1, c1, A2, n2, c2, A3, n3, c3, rfl, Rep.sl_more h1 hS, Rep.sl_more h2 hS, h3, h4, h5, fun hn => ?_⟩
  obtain ⟨b, o, rfl, hb, hr⟩ := h6 hn
  refine ⟨b, o, rfl, hS _ hb, fun i x hx => ?_⟩
  obtain ⟨es, he, hc⟩ := hr i x hx
  exact ⟨es, ih x (List.mem_of_getElem? hx) he, hc⟩
theorem Sb.rd_one {w : World} {S : Nat → Prop} {cs : List Value} {t : Sb} (h : Sb.rd w S cs t) : ∀ u ∈ cs, u.oneCell' = true := by
  intro u hu
  rw [Sb.rd] at h
  obtain ⟨_, _, _, _, _, _, _, _, _, rfl, _⟩ := h
  simp only [List.mem_cons, List.not_mem_nil, or_false] at hu
  rcases hu with rfl | rfl | rfl | rfl | rfl | rfl <;> rfl
def Rep.sb : Rep Sb where
  size := 6
  pos := by omega
  rd := Sb.rd
  len := Sb.rd_len
  keep := fun h hk => Sb.rd_keep hk _ h
  more := fun h hS => Sb.rd_more hS _ h
  one := fun h u hu => Sb.rd_one h u hu
def wdV (w : Wd) : List Value := [.bool w.aft, .int .i64 w.frm, .bool w.unt, .int .i64 w.to]
/-- What an entry has: a subject, whether it may delegate, a tag, a window. -/
def enRd (w : World) (S : Nat → Prop) (cs : List Value) (s : Sb) (d : Bool) (t : Tg) (v : Wd) : Prop :=
  ∃ l1 l2, cs = l1 ++ (.bool d :: (l2 ++ wdV v)) ∧ Sb.rd w S l1 s ∧ Tg.rd w S l2 t
theorem enRd_len {w : World} {S : Nat → Prop} {cs : List Value} {s : Sb} {d : Bool} {t : Tg} {v : Wd} (h : enRd w S cs s d t v) : cs.length = 21 := by
  obtain ⟨l1, l2, rfl, h1, h2⟩ := h
  simp only [List.length_append, List.length_cons, Sb.rd_len h1, Tg.rd_len h2, wdV, List.length_nil]
theorem enRd_one {w : World} {S : Nat → Prop} {cs : List Value} {s : Sb} {d : Bool} {t : Tg} {v : Wd} (h : enRd w S cs s d t v) : ∀ u ∈ cs, u.oneCell' = true := by
  obtain ⟨l1, l2, rfl, h1, h2⟩ := h
  intro u hu
  simp only [List.mem_append, List.mem_cons, wdV, List.not_mem_nil, or_false] at hu
  rcases hu with hu | rfl | hu | rfl | rfl | rfl | rfl
  · exact Sb.rd_one h1 u hu
  · rfl
  · exact Rep.tag.one h2 u hu
  all_goals rfl
def ctRd (w : World) (S : Nat → Prop) (cs : List Value) (c : Ct) : Prop :=
  ∃ A1 n1 c1 A2 n2 c2 l, cs = .bool c.ks :: .slice A1 n1 c1 :: .slice A2 n2 c2 :: l ∧ Rep.u8.sl w S A1 n1 c1 c.kd ∧ Rep.u8.sl w S A2 n2 c2 c.label ∧ enRd w S l c.sub c.dlg c.tag c.win
def Rep.cert : Rep Ct where
  size := 24
  pos := by omega
  rd := ctRd
  len := fun h => by
    obtain ⟨A1, n1, c1, A2, n2, c2, l, rfl, h1, h2, h3⟩ := h
    simp only [List.length_cons, enRd_len h3]
  keep := fun {w w' S cs e} h hk => by
    obtain ⟨A1, n1, c1, A2, n2, c2, l, rfl, h1, h2, l1, l2, rfl, h3, h4⟩ := h
    exact ⟨A1, n1, c1, A2, n2, c2, _, rfl, Rep.sl_keep h1 hk, Rep.sl_keep h2 hk, l1, l2, rfl, Sb.rd_keep hk _ h3, Tg.rd_keep hk _ h4⟩
  more := fun {w S S' cs e} h hS => by
    obtain ⟨A1, n1, c1, A2, n2, c2, l, rfl, h1, h2, l1, l2, rfl, h3, h4⟩ := h
    exact ⟨A1, n1, c1, A2, n2, c2, _, rfl, Rep.sl_more h1 hS, Rep.sl_more h2 hS, l1, l2, rfl, Sb.rd_more hS _ h3, Tg.rd_more hS _ h4⟩
  one := fun h u hu => by
    obtain ⟨A1, n1, c1, A2, n2, c2, l, rfl, h1, h2, h3⟩ := h
    simp only [List.mem_cons] at hu
    rcases hu with rfl | rfl | rfl | hu
    · rfl
    · rfl
    · rfl
    · exact enRd_one h3 u hu
section
variable {P : Program} {t e : TypeId}
theorem open_i64 {H : Type} {enc : TypeId × Value → H} {w : World} {sp : Nat → Bool} {held : Bool} {n : Nat} {cs : List Value} {x : DataW H × List MemPlace} {ty : TypeId} (hy : P.underlying ty = some (.int .i64)) (h : DataW.trod enc P w 0 sp held n ty cs = some x) : ∃ b : Int, cs = [.int .i64 b] ∧ (-9223372036854775808 ≤ b ∧ b ≤ 9223372036854775807) := by
  obtain ⟨z, hz, _, hw⟩ := DataW.trod_int hy h
  refine ⟨z, hz, ?_⟩
  simp [Lit.wf, IntKind.min, IntKind.max, IntKind.signed, IntKind.bits] at hw
  omega
theorem key_at {H : Type} {enc : TypeId × Value → H} {w : World} {sp : Nat → Bool} {held : Bool} {n : Nat} {cs : List Value} {x : DataW H × List MemPlace} {tK tb tB ty : TypeId} {fs : Array Field} (ht : P.underlying tK = some (.struct fs)) (hf : fs.toList.map (fun f => (f.type, f.offset)) = [(tb, 0), (tB, 1)]) (hc : P.cellsOf tK = 2) (hb : P.underlying tb = some .bool) (cb : P.cellsOf tb = 1)
    (hB : P.underlying tB = some (.slice ty)) (cB : P.cellsOf tB = 1) (hy : P.underlying ty = some (.int .u8)) (cy : P.cellsOf ty = 1) (h : DataW.trod enc P w 0 sp held n tK cs = some x) :
    ∃ (b : Bool) (y : List UInt8) (A : Option Addr) (k c : Nat), cs = [.bool b, .slice A k c] ∧ Rep.u8.sl w (fun b => b < w.heap.size) A k c y := by
  obtain ⟨m, xs, _, hx, hl, hcl, hg⟩ := field_at ht h hf
  rw [hc] at hcl
  match xs, hl, cs, hcl with
  | [x0, x1], _, [c0, c1], _ =>
    have e0 := hg 0 _ _ rfl rfl
    have e1 := hg 1 _ _ rfl rfl
    dsimp only at e0 e1
    rw [cb] at e0
    rw [cB] at e1
    obtain ⟨b0, q0, _⟩ := DataW.trod_bool hb e0
    obtain ⟨y, A, k, c, q1, s, hw⟩ := bytes_at hB hy cy e1
    simp only [List.drop_zero, List.drop_succ_cons, List.take_succ_cons, List.take_zero, List.cons.injEq, and_true] at q0 q1
    subst q0 q1
    exact ⟨b0, y, A, k, c, rfl, s⟩
theorem win_at {H : Type} {enc : TypeId × Value → H} {w : World} {sp : Nat → Bool} {held : Bool} {n : Nat} {cs : List Value} {x : DataW H × List MemPlace} {tW tb ti : TypeId} {fs : Array Field} (ht : P.underlying tW = some (.struct fs)) (hf : fs.toList.map (fun f => (f.type, f.offset)) = [(tb, 0), (ti, 1), (tb, 2), (ti, 3)]) (hc : P.cellsOf tW = 4) (hb : P.underlying tb = some .bool) (cb : P.cellsOf tb = 1)
    (hi : P.underlying ti = some (.int .i64)) (ci : P.cellsOf ti = 1) (h : DataW.trod enc P w 0 sp held n tW cs = some x) :
    ∃ v : Wd, cs = wdV v ∧ v.in64 := by
  obtain ⟨m, xs, _, hx, hl, hcl, hg⟩ := field_at ht h hf
  rw [hc] at hcl
  match xs, hl, cs, hcl with
  | [x0, x1, x2, x3], _, [c0, c1, c2, c3], _ =>
    have e0 := hg 0 _ _ rfl rfl
    have e1 := hg 1 _ _ rfl rfl
    have e2 := hg 2 _ _ rfl rfl
    have e3 := hg 3 _ _ rfl rfl
    dsimp only at e0 e1 e2 e3
    rw [cb] at e0 e2
    rw [ci] at e1 e3
    obtain ⟨b0, q0, _⟩ := DataW.trod_bool hb e0
    obtain ⟨b1, q1, i1⟩ := open_i64 hi e1
    obtain ⟨b2, q2, _⟩ := DataW.trod_bool hb e2
    obtain ⟨b3, q3, i3⟩ := open_i64 hi e3
    simp only [List.drop_zero, List.drop_succ_cons, List.take_succ_cons, List.take_zero, List.cons.injEq, and_true] at q0 q1 q2 q3
    subst q0 q1 q2 q3
    exact ⟨⟨b0, b1, b2, b3⟩, rfl, i1, i3⟩
/-- A value of type Subject is a subject. -/
theorem opensN_sb {tk tK tN ti tl tb tB ty : TypeId} {fs fk : Array Field} (ht : P.underlying t = some (.struct fs)) (hf : fs.toList.map (fun f => (f.type, f.offset)) = [(tk, 0), (tK, 1), (tN, 3), (ti, 4), (tl, 5)]) (hc : P.cellsOf t = 6)
    (hK : P.underlying tK = some (.struct fk)) (hfk : fk.toList.map (fun f => (f.type, f.offset)) = [(tb, 0), (tB, 1)]) (cK : P.cellsOf tK = 2)
    (hk : P.underlying tk = some (.int .u8)) (ck : P.cellsOf tk = 1) (hb : P.underlying tb = some .bool) (hB : P.underlying tB = some (.slice ty)) (hy : P.underlying ty = some (.int .u8)) (hl : P.underlying tl = some (.slice t))
    (hN : P.underlying tN = some (.slice tB)) (cN : P.cellsOf tN = 1) (hi : P.underlying ti = some (.int .i64)) (ci : P.cellsOf ti = 1)
    (cb : P.cellsOf tb = 1) (cB : P.cellsOf tB = 1) (cy : P.cellsOf ty = 1) (cl : P.cellsOf tl = 1) : ∀ fuel, OpensN P fuel t Rep.sb (fun _ => 0) := by
  intro fuel
  induction fuel using Nat.strongRecOn with
  | _ fuel ih =>
  intro H enc w sp held cs x h
  obtain ⟨m, xs, rfl, hx, hlx, hcl, hg⟩ := field_at ht h hf
  rw [hc] at hcl
  match xs, hlx, cs, hcl with
  | [x0, x1, x2, x3, x4], _, [c0, c1, c2, c3, c4, c5], _ =>
    have e0 := hg 0 _ _ rfl rfl
    have e1 := hg 1 _ _ rfl rfl
    have e2 := hg 2 _ _ rfl rfl
    have e3 := hg 3 _ _ rfl rfl
    have e4 := hg 4 _ _ rfl rfl
    dsimp only at e0 e1 e2 e3 e4
    rw [ck] at e0
    rw [cK] at e1
    rw [cN] at e2
    rw [ci] at e3
    rw [cl] at e4
    obtain ⟨k0, q0⟩ := open_u8 hk e0
    obtain ⟨b1, y1, A1, n1, k1, q1, s1⟩ := key_at hK hfk cK hb cb hB cB hy cy e1
    obtain ⟨y2, ⟨A2, n2, k2, q2, s2⟩, w2⟩ := opensN_slice (r := Rep.u8.slice) (wt := fun xs => (xs.map fun _ => 1).sum + 1) m hN cB (fun j hj => opensN_slice j hB cy fun i _ => opensN_u8 i hy cy) _ _ _ _ _ _ _ e2
    obtain ⟨k3, q3, _⟩ := open_i64 hi e3
    obtain ⟨y4, ⟨A4, n4, k4, q4, s4⟩, w4⟩ := opensN_slice (r := Rep.sb) (wt := fun _ => 0) m hl hc (fun j hj => ih j (by omega)) _ _ _ _ _ _ _ e4
    simp only [List.drop_zero, List.drop_succ_cons, List.take_succ_cons, List.take_zero, List.cons.injEq, and_true] at q0 q1 q2 q3 q4
    obtain ⟨q1a, q1b⟩ := q1
    subst q0 q1a q1b q2 q3 q4
    refine ⟨.mk k0 b1 y1 y2 k3 y4, ?_, Nat.zero_le _⟩
    show Sb.rd w _ _ (.mk k0 b1 y1 y2 k3 y4)
    rw [Sb.rd]
    exact ⟨A1, n1, k1, A2, n2, k2, A4, n4, k4, rfl, s1, s2, s4.1, s4.2.1, s4.2.2.1, s4.2.2.2⟩
end
end Go.Proofs.YtfammdfpgccnfaaGreatDoor
/- Certificates: the program's issuer, rights. -/
namespace Go.Proofs.YtfammdfpgccnfaaGreatDoor
open Go.RowKit
/-- A certificate that can be gone through. -/
structure Ct.fit (c : Ct) : Prop where
  kd : c.kd.length ≤ 5000
  label : c.label.length ≤ 5000
  sub : c.sub.fit
  wt : c.tag.wt ≤ 2000000
  nodes : c.tag.nodes ≤ 1000
  win : c.win.in64
def issO (c : Ct) : Tree := if keyMay c.ks c.kd then issV c else keyOut c.ks c.kd
noncomputable def rightsO (c : Ct) : List Tree := if emptyL c.label then (if c.dlg then [propT] else []) ++ [pairT wTagW (if tMay c.tag then c.tag.val else zeroT)] else []
noncomputable def rightsE (c : Ct) : Int := if emptyL c.label then (if tMay c.tag then 0 else 13) else if rOk c then 0 else 3
theorem zeroT_C : treeC zeroT = [.v (.bool false), .v (.bool false), .sl 0 [], .sl 0 [], .sl 0 []] := by
  unfold zeroT
  rw [treeC_mk]
  rfl
theorem zeroTg_C : tagC zeroTg = [.v (.int .u8 0), .sl 0 [], .sl 0 [], .v (.int .u8 0), .v (.bool false), .v (.bool false), .sl 0 [], .v (.bool false), .v (.bool false), .sl 0 []] := by
  unfold zeroTg
  rw [tagC_eq]
  rfl
theorem isZ_same (t : Tg) : t.same zeroTg = isZ t := rfl
section
variable {G : Nat → Option (List D)}
theorem issuer_m (c : Ct) {cs : List D} (hcs : ctC c = cs) (h1 : c.kd.length ≤ 5000) (h2 : c.label.length ≤ 5000) : Spec Tryz.prog G 83 [.g cs] (.many [.g (treeC (issO c)), .c (.v (.int .i64 (keyErr c.ks c.kd)))]) := by
  subst hcs
  have hk := kput_m (G := G) c.ks c.kd (by omega)
  have n0 := len0_empty c.label
  obtain ⟨s1, s2, s3, s4, s5, hs⟩ := sb_cells c.sub
  obtain ⟨t0, t1, t2, t3, t4, t5, t6, t7, t8, t9, ht⟩ := tag_cells c.tag
  unfold ctC wdC
  rw [hs, ht]
  clear hs ht
  unfold issO issV
  cases hm : keyMay c.ks c.kd with
  | false =>
    rw [if_neg (by decide)]
    have he : keyErr c.ks c.kd = 7 := by rw [keyErr, hm]; rfl
    rw [he] at hk ⊢
    rw [treeC_eq (keyOut c.ks c.kd)] at hk ⊢
    generalize keyOut c.ks c.kd = V at *
    simp only [keyC, bD, bytesD, List.cons_append, List.nil_append] at *
    refine spec_of Tryz.func83 rfl rfl rfl (by kernel_rfl) rfl fun K => ?_
    (repeat' (first | with_reducible (first | refine zA fun Kn hK => ?_ | refine zB (by kernel_rfl) ?_ | refine Nx.go ?_ | go_step) | (refine ⟨_, hk, ?_⟩) | with_reducible (first | refine zI ?_ | refine zJ ?_ | refine zK ?_ ?_ | refine zL ?_ ?_ | refine zR (by kernel_rfl) ?_) | simp (maxSteps := 9999999) (disch := omega) only [wq] | (with_reducible refine zM (fun hb => ?_) (fun hb => ?_) <;> (try simp only [hb])) | (with_reducible refine And.intro (by first | omega | (simp; done) | (simp; omega)) ?_) | simp (maxSteps := 9999999) (implicitDefEqProofs := false) only [go_sem, decide_true, bne, Bool.not_true, Bool.not_false] | fail))
    all_goals rfl
  | true =>
    rw [if_pos rfl]
    have he : keyErr c.ks c.kd = 0 := by rw [keyErr, hm]; rfl
    have ho : keyOut c.ks c.kd = keyV c.ks c.kd := by rw [keyOut, hm]; rfl
    rw [he, ho] at hk
    rw [he]
    clear he ho hm
    generalize hV : keyV c.ks c.kd = V at *
    cases hl : emptyL c.label with
    | true =>
      rw [hl] at n0
      rw [if_pos rfl]
      rw [treeC_eq V] at hk ⊢
      simp only [keyC, bD, bytesD, List.cons_append, List.nil_append] at *
      refine spec_of Tryz.func83 rfl rfl rfl (by kernel_rfl) rfl fun K => ?_
      (repeat' (first | with_reducible (first | refine zA fun Kn hK => ?_ | refine zB (by kernel_rfl) ?_ | refine Nx.go ?_ | go_step) | (refine ⟨_, hk, ?_⟩) | with_reducible (first | refine zI ?_ | refine zJ ?_ | refine zK ?_ ?_ | refine zL ?_ ?_ | refine zR (by kernel_rfl) ?_) | simp (maxSteps := 9999999) (disch := omega) only [wq] | (with_reducible refine zM (fun hb => ?_) (fun hb => ?_) <;> (try simp only [hb])) | (with_reducible refine And.intro (by first | omega | (simp; done) | (simp; omega)) ?_) | simp (maxSteps := 9999999) (implicitDefEqProofs := false) only [go_sem, n0, decide_true, bne, Bool.not_true, Bool.not_false] | fail))
      all_goals rfl
    | false =>
      rw [hl] at n0
      rw [if_neg (by decide)]
      have a0 := atom_m (G := G) tName (by decide)
      have hcl := bclone_m (G := G) c.label (by omega)
      have hli := list_m (G := G) [atomT tName, V, atomT c.label] (by simp)
      rw [show treeC (listT [atomT tName, V, atomT c.label]) = treeC (.mk true false [] [] [atomT tName, V, atomT c.label]) from rfl]
      have hL := treeC_eq (.mk true false [] [] [atomT tName, V, atomT c.label])
      generalize treeC (.mk true false [] [] [atomT tName, V, atomT c.label]) = O at *
      rw [hL] at hli
      rw [List.flatMap_cons, List.flatMap_cons, List.flatMap_cons, List.flatMap_nil, List.append_nil] at hli
      unfold atomT at hli
      rw [treeC_mk, treeC_mk] at hli
      rw [treeC_mk] at a0
      rw [treeC_eq V] at hk hli
      unfold tName at *
      simp only [keyC, bD, bytesD, List.cons_append, List.nil_append] at *
      refine spec_of Tryz.func83 rfl rfl rfl (by kernel_rfl) rfl fun K => ?_
      (repeat' (first | with_reducible (first | refine zA fun Kn hK => ?_ | refine zB (by kernel_rfl) ?_ | refine Nx.go ?_ | go_step) | (refine ⟨none, ?_⟩) | (refine ⟨_, hk, ?_⟩) | (refine ⟨_, a0, ?_⟩) | (refine ⟨_, hcl, ?_⟩) | (refine ⟨_, hli, ?_⟩) | with_reducible (first | refine zI ?_ | refine zJ ?_ | refine zK ?_ ?_ | refine zL ?_ ?_ | refine zR (by kernel_rfl) ?_) | simp (maxSteps := 9999999) (disch := omega) only [wq] | (with_reducible refine zM (fun hb => ?_) (fun hb => ?_) <;> (try simp only [hb])) | (with_reducible refine And.intro (by first | omega | (simp; done) | (simp; omega)) ?_) | simp (maxSteps := 9999999) (implicitDefEqProofs := false) only [go_sem, n0, rep1, decide_true, bne, Bool.not_true, Bool.not_false] | fail))
      all_goals (rw [hL]; try rfl)
theorem rights_m (hG : G 0 = some powD) (c : Ct) {cs : List D} (hcs : ctC c = cs) (hf : c.fit) : Spec Tryz.prog G 85 [.g cs] (.many [.c (.sl (rightsO c).length ((rightsO c).flatMap treeC)), .c (.v (.int .i64 (rightsE c)))]) := by
  subst hcs
  have n0 : decide ((c.label.length : Int) > 0) = !emptyL c.label := pos_len c.label
  have hsm := tsame_m (G := G) c.tag zeroTg _ _ rfl rfl (by have := hf.wt; omega)
  rw [isZ_same] at hsm
  have hp := tput_m (G := G) hG c.tag rfl (by have := hf.wt; omega) (by have := hf.nodes; omega)
  have e3 : ((c.sub.kind.toNat : Int) == 3) = decide (c.sub.kind = 3) := by
    have := u8_beq c.sub.kind 3
    rw [show ((3 : UInt8).toNat : Int) = 3 from rfl] at this
    rw [this]
    exact Bool.beq_eq_decide_eq _ _
  obtain ⟨s1, s2, s3, s4, s5, hs⟩ := sb_cells c.sub
  obtain ⟨t0, t1, t2, t3, t4, t5, t6, t7, t8, t9, ht⟩ := tag_cells c.tag
  unfold ctC wdC
  rw [hs, ht]
  rw [ht] at hsm hp
  rw [zeroTg_C] at hsm
  clear hs ht
  unfold rightsO rightsE
  cases hl : emptyL c.label with
  | false =>
    rw [hl] at n0
    rw [if_neg (by decide), if_neg (by decide)]
    have hr : rOk c = (!c.dlg && (isZ c.tag && !decide (c.sub.kind = 3))) := by
      unfold rOk
      rw [hl]
      rfl
    rw [hr]
    clear hl hp hr
    generalize decide (c.sub.kind = 3) = z3 at *
    generalize isZ c.tag = zz at *
    obtain ⟨zd, hzd⟩ : ∃ z, c.dlg = z := ⟨_, rfl⟩
    rw [hzd]
    simp only [bD, bytesD, List.cons_append, List.nil_append] at *
    cases zd <;> cases zz <;> cases z3
    all_goals
      refine spec_of Tryz.func85 rfl rfl rfl (by kernel_rfl) rfl fun K => ?_
      (repeat' (first | with_reducible (first | refine zA fun Kn hK => ?_ | refine zB (by kernel_rfl) ?_ | refine Nx.go ?_ | go_step) | (refine ⟨_, hsm, ?_⟩) | with_reducible (first | refine zI ?_ | refine zJ ?_ | refine zK ?_ ?_ | refine zL ?_ ?_ | refine zR (by kernel_rfl) ?_) | simp (maxSteps := 9999999) (disch := omega) only [wq] | (with_reducible refine zM (fun hb => ?_) (fun hb => ?_) <;> (try simp only [hb])) | (with_reducible refine And.intro (by first | omega | (simp; done) | (simp; omega)) ?_) | simp (maxSteps := 9999999) (implicitDefEqProofs := false) only [go_sem, n0, e3, decide_true, bne, Bool.not_true, Bool.not_false] | fail))
      all_goals rfl
  | true =>
    rw [hl] at n0
    rw [if_pos rfl, if_pos rfl]
    clear hl hsm
    obtain ⟨zd, hzd⟩ : ∃ z, c.dlg = z := ⟨_, rfl⟩
    rw [hzd]
    obtain ⟨V, E, hpv, hV, hE⟩ : ∃ (V : Tree) (E : Int), Spec Tryz.prog G 95 [.g [t0, t1, t2, t3, t4, t5, t6, t7, t8, t9]] (.many [.g (treeC V), .c (.v (.int .i64 E))]) ∧ (if tMay c.tag = true then c.tag.val else zeroT) = V ∧ (if tMay c.tag = true then (0 : Int) else 13) = E := by
      cases hq : tMay c.tag with
      | true =>
        rw [hq, if_pos rfl] at hp
        exact ⟨_, _, hp, if_pos rfl, if_pos rfl⟩
      | false =>
        rw [hq, if_neg (by decide)] at hp
        refine ⟨zeroT, 13, ?_, if_neg (by decide), if_neg (by decide)⟩
        rw [zeroT_C]
        exact hp
    rw [hV, hE]
    clear hp hV hE
    have pr := pair_m (G := G) wTagW V rfl (by decide)
    cases zd with
    | false =>
      rw [if_neg (by decide), show [] ++ [pairT wTagW V] = [pairT wTagW V] from rfl, List.flatMap_cons, List.flatMap_nil, List.append_nil]
      rw [treeC_eq (pairT wTagW V)] at pr ⊢
      rw [treeC_eq V] at pr hpv
      generalize pairT wTagW V = W at *
      unfold wTagW at *
      simp only [bD, bytesD, List.cons_append, List.nil_append] at *
      refine spec_of Tryz.func85 rfl rfl rfl (by kernel_rfl) rfl fun K => ?_
      (repeat' (first | with_reducible (first | refine zA fun Kn hK => ?_ | refine zB (by kernel_rfl) ?_ | refine Nx.go ?_ | go_step) | (refine ⟨none, ?_⟩) | (refine ⟨_, hpv, ?_⟩) | (refine ⟨_, pr, ?_⟩) | with_reducible (first | refine zI ?_ | refine zJ ?_ | refine zK ?_ ?_ | refine zL ?_ ?_ | refine zR (by kernel_rfl) ?_) | simp (maxSteps := 9999999) (disch := omega) only [wq] | (with_reducible refine zM (fun hb => ?_) (fun hb => ?_) <;> (try simp only [hb])) | (with_reducible refine And.intro (by first | omega | (simp; done) | (simp; omega)) ?_) | simp (maxSteps := 9999999) (implicitDefEqProofs := false) only [go_sem, n0, hzd, rep1, decide_true, bne, Bool.not_true, Bool.not_false] | fail))
      all_goals rfl
    | true =>
      rw [if_pos rfl, show [propT] ++ [pairT wTagW V] = [propT, pairT wTagW V] from rfl, List.flatMap_cons, List.flatMap_cons, List.flatMap_nil, List.append_nil]
      have a0 := atom_m (G := G) wProp (by decide)
      have hli := list_m (G := G) [atomT wProp] (by simp)
      rw [List.flatMap_cons, List.flatMap_nil, List.append_nil] at hli
      rw [show treeC (.mk true false [] [] [atomT wProp]) = treeC propT from rfl] at hli
      unfold atomT at hli
      rw [treeC_mk] at hli
      rw [treeC_mk] at a0
      rw [treeC_eq propT] at hli ⊢
      rw [treeC_eq (pairT wTagW V)] at pr ⊢
      rw [treeC_eq V] at pr hpv
      generalize pairT wTagW V = W at *
      generalize propT = X at *
      unfold wTagW wProp at *
      simp only [bD, bytesD, List.cons_append, List.nil_append] at *
      refine spec_of Tryz.func85 rfl rfl rfl (by kernel_rfl) rfl fun K => ?_
      (repeat' (first | with_reducible (first | refine zA fun Kn hK => ?_ | refine zB (by kernel_rfl) ?_ | refine Nx.go ?_ | go_step) | (refine ⟨none, ?_⟩) | (refine ⟨_, a0, ?_⟩) | (refine ⟨_, hli, ?_⟩) | (refine ⟨_, hpv, ?_⟩) | (refine ⟨_, pr, ?_⟩) | with_reducible (first | refine zI ?_ | refine zJ ?_ | refine zK ?_ ?_ | refine zL ?_ ?_ | refine zR (by kernel_rfl) ?_) | simp (maxSteps := 9999999) (disch := omega) only [wq] | (with_reducible refine zM (fun hb => ?_) (fun hb => ?_) <;> (try simp only [hb])) | (with_reducible refine And.intro (by first | omega | (simp; done) | (simp; omega)) ?_) | simp (maxSteps := 9999999) (implicitDefEqProofs := false) only [go_sem, n0, hzd, rep1, decide_true, bne, Bool.not_true, Bool.not_false] | fail))
      all_goals rfl
end
end Go.Proofs.YtfammdfpgccnfaaGreatDoor
/- Certificates: the program's value, Put, May. -/
namespace Go.Proofs.YtfammdfpgccnfaaGreatDoor
open Go.RowKit
noncomputable def all3 (c : Ct) : Bool := keyMay c.ks c.kd && (c.sub.may && rOk c)
def winO (w : Wd) : List Tree := if w = Wd.none then [] else [if w.may = true then w.val else zeroT]
noncomputable def cvalO (c : Ct) : Tree := if all3 c then listT (atomT wCert :: pairT wIssuer (issV c) :: pairT wSubject c.sub.val :: (rightsO c ++ winO c.win)) else zeroT
theorem ok_all3 (c : Ct) : c.ok = (all3 c && c.win.may) := by
  unfold Ct.ok all3
  rw [Bool.and_assoc, Bool.and_assoc]
theorem rightsE_ok (c : Ct) : (rightsE c == 0) = rOk c := by
  unfold rightsE rOk
  cases emptyL c.label with
  | true =>
    rw [if_pos rfl, if_pos rfl]
    cases tMay c.tag <;> rfl
  | false =>
    have h1 : (if false = true then (if tMay c.tag = true then (0 : Int) else 13) else if (if false = true then tMay c.tag else !c.dlg && (isZ c.tag && !decide (c.sub.kind = 3))) = true then 0 else 3) = if (!c.dlg && (isZ c.tag && !decide (c.sub.kind = 3))) = true then 0 else 3 := rfl
    rw [h1]
    have h2 : (if false = true then tMay c.tag else !c.dlg && (isZ c.tag && !decide (c.sub.kind = 3))) = (!c.dlg && (isZ c.tag && !decide (c.sub.kind = 3))) := rfl
    rw [h2]
    cases (!c.dlg && (isZ c.tag && !decide (c.sub.kind = 3))) <;> rfl
theorem rights_rest {c : Ct} (h : rOk c = true) : rightsO c ++ winL c.win = restL c := by
  unfold rightsO restL tailV
  unfold rOk at h
  cases hl : emptyL c.label with
  | true =>
    rw [hl] at h
    have h : tMay c.tag = true := h
    rw [if_pos rfl, if_pos rfl, if_pos h, List.append_assoc]
    rfl
  | false => rfl
theorem cval_ok {c : Ct} (h : c.ok = true) : cvalO c = c.val := by
  rw [ok_all3, Bool.and_eq_true] at h
  unfold cvalO
  rw [if_pos h.1]
  have h2 := h.1
  unfold all3 at h2
  simp only [Bool.and_eq_true] at h2
  unfold Ct.val
  rw [← rights_rest h2.2.2]
  unfold winO winL
  rw [if_pos h.2]
theorem rightsO_len (c : Ct) : (rightsO c).length ≤ 2 := by
  unfold rightsO
  cases emptyL c.label <;> cases c.dlg <;> simp
section
variable {G : Nat → Option (List D)}
theorem cvalue_m (hG : G 0 = some powD) (c : Ct) {cs : List D} (hcs : ctC c = cs) (hf : c.fit) : Spec Tryz.prog G 45 [.g cs] (.many [.g (treeC (cvalO c)), .c (.v (.bool c.ok))]) := by
  subst hcs
  obtain ⟨s1, s2, s3, s4, s5, hs⟩ := sb_cells c.sub
  obtain ⟨t0, t1, t2, t3, t4, t5, t6, t7, t8, t9, ht⟩ := tag_cells c.tag
  have hct : ctC c = [.v (.bool c.ks), bytesD c.kd, bytesD c.label, .v (.int .u8 (c.sub.kind.toNat : Int)), s1, s2, s3, s4, s5, .v (.bool c.dlg), t0, t1, t2, t3, t4, t5, t6, t7, t8, t9, .v (.bool c.win.aft), .v (.int .i64 c.win.frm), .v (.bool c.win.unt), .v (.int .i64 c.win.to)] := by
    unfold ctC wdC
    rw [hs, ht]
    rfl
  have h1 := issuer_m (G := G) c rfl hf.kd hf.label
  have h2 := sbput_m (G := G) hG c.sub rfl hf.sub
  have h3 := rights_m (G := G) hG c rfl hf
  have h4 := wput_m (G := G) c.win
  have hke : keyErr c.ks c.kd = if keyMay c.ks c.kd = true then 0 else 7 := by
    rw [keyErr]
  have hre := rightsE_ok c
  have hiss : keyMay c.ks c.kd = true → issO c = issV c := fun h => by rw [issO, if_pos h]
  rw [hke] at h1
  clear hke
  rw [ok_all3]
  have hall : all3 c = (keyMay c.ks c.kd && (c.sub.may && rOk c)) := rfl
  have hcv : cvalO c = if all3 c = true then listT (atomT wCert :: pairT wIssuer (issV c) :: pairT wSubject c.sub.val :: (rightsO c ++ winO c.win)) else zeroT := rfl
  rw [hcv]
  clear hcv
  rw [hall]
  clear hall
  unfold sputD at h2
  rw [hct] at h1 h3 ⊢
  rw [hs] at h2
  clear hs ht hct
  obtain ⟨R, hR⟩ : ∃ R, rightsO c = R := ⟨_, rfl⟩
  have hRl := rightsO_len c
  rw [hR] at h3 hRl ⊢
  clear hR
  generalize hE : rightsE c = E at *
  obtain ⟨RC, hRC⟩ : ∃ RC, R.flatMap treeC = RC := ⟨_, rfl⟩
  have hRCl : RC.length = R.length * 5 := by rw [← hRC, treeC_flen]
  generalize rOk c = z3 at *
  cases hz1 : keyMay c.ks c.kd with
  | false =>
    rw [hz1] at h1
    rw [if_neg (by decide)] at h1
    rw [Bool.false_and, Bool.false_and, if_neg (by decide), zeroT_C]
    rw [treeC_eq] at h1 h2
    generalize (if c.sub.may = true then (0 : Int) else 7) = E2 at *
    rw [hRC] at h3
    clear hre hiss h4
    simp only [bD, bytesD] at *
    refine spec_of Tryz.func45 rfl rfl rfl (by kernel_rfl) rfl fun K => ?_
    (repeat' (first | with_reducible (first | refine zA fun Kn hK => ?_ | refine zB (by kernel_rfl) ?_ | refine Nx.go ?_ | go_step) | (refine ⟨_, h1, ?_⟩) | (refine ⟨_, h2, ?_⟩) | (refine ⟨_, h3, ?_⟩) | with_reducible (first | refine zI ?_ | refine zJ ?_ | refine zK ?_ ?_ | refine zL ?_ ?_ | refine zR (by kernel_rfl) ?_) | simp (maxSteps := 9999999) (disch := omega) only [wq] | (with_reducible refine zM (fun hb => ?_) (fun hb => ?_) <;> (try simp only [hb])) | (with_reducible refine And.intro (by first | omega | (simp; done) | (simp; omega)) ?_) | simp (maxSteps := 9999999) (implicitDefEqProofs := false) only [go_sem, decide_true, bne, Bool.not_true, Bool.not_false] | fail))
    all_goals rfl
  | true =>
    rw [hz1] at h1
    rw [if_pos rfl, hiss hz1] at h1
    rw [Bool.true_and]
    cases hz2 : c.sub.may with
    | false =>
      rw [hz2] at h2
      rw [if_neg (by decide), if_neg (by decide)] at h2
      rw [Bool.false_and, Bool.false_and, if_neg (by decide)]
      rw [zeroT_C] at h2 ⊢
      rw [treeC_eq] at h1
      rw [hRC] at h3
      clear hre hiss h4
      simp only [bD, bytesD] at *
      refine spec_of Tryz.func45 rfl rfl rfl (by kernel_rfl) rfl fun K => ?_
      (repeat' (first | with_reducible (first | refine zA fun Kn hK => ?_ | refine zB (by kernel_rfl) ?_ | refine Nx.go ?_ | go_step) | (refine ⟨_, h1, ?_⟩) | (refine ⟨_, h2, ?_⟩) | (refine ⟨_, h3, ?_⟩) | with_reducible (first | refine zI ?_ | refine zJ ?_ | refine zK ?_ ?_ | refine zL ?_ ?_ | refine zR (by kernel_rfl) ?_) | simp (maxSteps := 9999999) (disch := omega) only [wq] | (with_reducible refine zM (fun hb => ?_) (fun hb => ?_) <;> (try simp only [hb])) | (with_reducible refine And.intro (by first | omega | (simp; done) | (simp; omega)) ?_) | simp (maxSteps := 9999999) (implicitDefEqProofs := false) only [go_sem, decide_true, bne, Bool.not_true, Bool.not_false] | fail))
      all_goals rfl
    | true =>
      rw [hz2] at h2
      rw [if_pos rfl, if_pos rfl] at h2
      rw [Bool.true_and]
      cases z3 with
      | false =>
        rw [Bool.false_and, if_neg (by decide), zeroT_C]
        rw [treeC_eq] at h1 h2
        rw [hRC] at h3
        clear hiss h4
        simp only [bD, bytesD] at *
        refine spec_of Tryz.func45 rfl rfl rfl (by kernel_rfl) rfl fun K => ?_
        (repeat' (first | with_reducible (first | refine zA fun Kn hK => ?_ | refine zB (by kernel_rfl) ?_ | refine Nx.go ?_ | go_step) | (refine ⟨_, h1, ?_⟩) | (refine ⟨_, h2, ?_⟩) | (refine ⟨_, h3, ?_⟩) | with_reducible (first | refine zI ?_ | refine zJ ?_ | refine zK ?_ ?_ | refine zL ?_ ?_ | refine zR (by kernel_rfl) ?_) | simp (maxSteps := 9999999) (disch := omega) only [wq] | (with_reducible refine zM (fun hb => ?_) (fun hb => ?_) <;> (try simp only [hb])) | (with_reducible refine And.intro (by first | omega | (simp; done) | (simp; omega)) ?_) | simp (maxSteps := 9999999) (implicitDefEqProofs := false) only [go_sem, hre, decide_true, bne, Bool.not_true, Bool.not_false] | fail))
        all_goals rfl
      | true =>
        rw [Bool.true_and, if_pos rfl]
        obtain rfl : E = 0 := by simpa using hre
        have a0 := atom_m (G := G) wCert (by decide)
        have p1 := pair_m (G := G) wIssuer (issV c) rfl (by decide)
        have p2 := pair_m (G := G) wSubject c.sub.val rfl (by decide)
        have k1 := win_key hf.win
        have k2 := win_key none_64
        clear hre hiss hz1 hz2 hE
        generalize issV c = I at *
        generalize c.sub.val = U at *
        have hX : ∀ (W : List Tree), W.length ≤ 1 → Spec Tryz.prog G 51 [.c (.sl (3 + R.length + W.length) (treeC (atomT wCert) ++ treeC (pairT wIssuer I) ++ treeC (pairT wSubject U) ++ RC ++ W.flatMap treeC))] (.one (.g (treeC (listT (atomT wCert :: pairT wIssuer I :: pairT wSubject U :: (R ++ W)))))) := fun W hW => by
          have := list_m (G := G) (atomT wCert :: pairT wIssuer I :: pairT wSubject U :: (R ++ W)) (by simp only [List.length_cons, List.length_append]; omega)
          rw [show treeC (.mk true false [] [] (atomT wCert :: pairT wIssuer I :: pairT wSubject U :: (R ++ W))) = treeC (listT (atomT wCert :: pairT wIssuer I :: pairT wSubject U :: (R ++ W))) from rfl] at this
          rw [List.flatMap_cons, List.flatMap_cons, List.flatMap_cons, List.flatMap_append, hRC, List.length_cons, List.length_cons, List.length_cons, List.length_append, show R.length + W.length + 1 + 1 + 1 = 3 + R.length + W.length by omega] at this
          simpa only [List.append_assoc] using this
        rw [hRC] at h3
        rw [treeC_eq I] at h1 p1
        rw [treeC_eq U] at h2 p2
        rw [treeC_mk] at a0
        have hA0 : treeC (atomT wCert) = [.v (.bool false), .v (.bool false), bytesD [], bytesD wCert, .sl 0 []] := by
          unfold atomT
          rw [treeC_mk]
          rfl
        generalize c.win = w at *
        generalize hP1 : pairT wIssuer I = P1 at *
        generalize hP2 : pairT wSubject U = P2 at *
        rw [hA0, treeC_eq P1, treeC_eq P2] at hX
        rw [treeC_eq P1] at p1
        rw [treeC_eq P2] at p2
        unfold winO
        unfold wputD wdC at h4
        by_cases hw : w = Wd.none
        · rw [if_pos (show w.may = true by rw [hw]; decide)] at h4
          rw [if_pos hw, show w.may = true by rw [hw]; decide]
          have hX0 := hX [] (by decide)
          rw [List.flatMap_nil, List.append_nil, List.length_nil, Nat.add_zero] at hX0
          rw [List.append_nil] at hX0 ⊢
          generalize listT (atomT wCert :: P1 :: P2 :: R) = LT at *
          rw [treeC_eq LT] at hX0 ⊢
          clear hX
          rw [treeC_eq w.val] at h4
          generalize w.val = WV at *
          unfold wCert wIssuer wSubject at *
          simp only [bD, bytesD] at *
          have hh : (true = true) ↔ wdLit w = wdLit Wd.none := win_key_eq (by rw [decide_eq_true hw])
          clear hw
          refine spec_of Tryz.func45 rfl rfl rfl (by kernel_rfl) rfl fun K => ?_
          (repeat' (first | with_reducible (first | refine zA fun Kn hK => ?_ | refine zB (by kernel_rfl) ?_ | refine Nx.go ?_ | go_step) | (refine ⟨none, ?_⟩) | (refine ⟨_, h1, ?_⟩) | (refine ⟨_, h2, ?_⟩) | (refine ⟨_, h3, ?_⟩) | (refine ⟨_, a0, ?_⟩) | (refine ⟨_, p1, ?_⟩) | (refine ⟨_, p2, ?_⟩) | (refine ⟨_, h4, ?_⟩) | (refine ⟨_, hX0, ?_⟩) | (refine run_agg_neq (by kernel_rfl) k1 k2 hh ?_) | with_reducible (first | refine zI ?_ | refine zJ ?_ | refine zK ?_ ?_ | refine zL ?_ ?_ | refine zR (by kernel_rfl) ?_) | simp (maxSteps := 9999999) (disch := omega) only [wq] | (with_reducible refine zM (fun hb => ?_) (fun hb => ?_) <;> (try simp only [hb])) | (with_reducible refine And.intro (by first | omega | (simp; done) | (simp; omega)) ?_) | simp (maxSteps := 9999999) (implicitDefEqProofs := false) only [go_sem, rep1, hRCl, List.length_map, List.length_append, dOnly_mapd, decide_true, bne, Bool.not_true, Bool.not_false] | fail))
          all_goals rfl
        · rw [if_neg hw]
          obtain ⟨WV, WE, h5, hV, hE5⟩ : ∃ (WV : Tree) (WE : Int), Spec Tryz.prog G 87 [.g [.v (.bool w.aft), .v (.int .i64 w.frm), .v (.bool w.unt), .v (.int .i64 w.to)]] (.many [.g (treeC WV), .c (.v (.int .i64 WE))]) ∧ (if w.may = true then w.val else zeroT) = WV ∧ (WE == 0) = w.may := by
            cases hq : w.may with
            | true =>
              rw [hq, if_pos rfl] at h4
              exact ⟨_, _, h4, if_pos rfl, rfl⟩
            | false =>
              rw [hq, if_neg (by decide)] at h4
              refine ⟨zeroT, 11, ?_, if_neg (by decide), rfl⟩
              rw [zeroT_C]
              exact h4
          rw [hV]
          clear h4 hV
          generalize w.may = q at *
          have hX0 := hX [WV] (by simp)
          rw [List.flatMap_cons, List.flatMap_nil, List.append_nil, List.length_singleton] at hX0
          generalize listT (atomT wCert :: P1 :: P2 :: (R ++ [WV])) = LT at *
          rw [treeC_eq LT] at hX0 ⊢
          rw [treeC_eq WV] at hX0 h5
          clear hX
          unfold wCert wIssuer wSubject at *
          simp only [bD, bytesD] at *
          have hh : (false = true) ↔ wdLit w = wdLit Wd.none := win_key_eq (by rw [decide_eq_false hw])
          clear hw
          refine spec_of Tryz.func45 rfl rfl rfl (by kernel_rfl) rfl fun K => ?_
          (repeat' (first | with_reducible (first | refine zA fun Kn hK => ?_ | refine zB (by kernel_rfl) ?_ | refine Nx.go ?_ | go_step) | (refine ⟨none, ?_⟩) | (refine ⟨_, h1, ?_⟩) | (refine ⟨_, h2, ?_⟩) | (refine ⟨_, h3, ?_⟩) | (refine ⟨_, a0, ?_⟩) | (refine ⟨_, p1, ?_⟩) | (refine ⟨_, p2, ?_⟩) | (refine ⟨_, h5, ?_⟩) | (refine ⟨_, hX0, ?_⟩) | (refine run_agg_neq (by kernel_rfl) k1 k2 hh ?_) | with_reducible (first | refine zI ?_ | refine zJ ?_ | refine zK ?_ ?_ | refine zL ?_ ?_ | refine zR (by kernel_rfl) ?_) | simp (maxSteps := 9999999) (disch := omega) only [wq] | (with_reducible refine zM (fun hb => ?_) (fun hb => ?_) <;> (try simp only [hb])) | (with_reducible refine And.intro (by first | omega | (simp; done) | (simp; omega)) ?_) | simp (maxSteps := 9999999) (implicitDefEqProofs := false) only [go_sem, rep1, hRCl, hE5, List.length_map, List.length_append, dOnly_mapd, decide_true, bne, Bool.not_true, Bool.not_false] | fail))
          all_goals rfl
end
end Go.Proofs.YtfammdfpgccnfaaGreatDoor
/- Certificates: the program's Put, May, of. -/
namespace Go.Proofs.YtfammdfpgccnfaaGreatDoor
open Go.RowKit
theorem zeroT_wt : zeroT.wt = 1 := by
  unfold zeroT
  rw [Tree.wt_eq]
  rfl
theorem winV_wt (w : Wd) : w.val.wt ≤ 100 := by
  have e : ∀ (x : List UInt8) (n : Int), x.length ≤ 10 → (endV x n).wt ≤ 32 := fun x n h => by
    unfold endV
    rw [wt_listT]
    simp only [List.map_cons, List.map_nil, List.sum_cons, List.sum_nil, wt_atomT, dateS_len]
    omega
  have e1 := e wNB w.frm (by decide)
  have e2 := e wNA w.to (by decide)
  unfold Wd.val wdK
  rw [wt_listT, List.map_cons, List.sum_cons, wt_atomT, List.map_append, List.sum_append]
  have k1 : ((if w.aft = true then [endV wNB w.frm] else []).map Tree.wt).sum ≤ 32 := by
    split
    · simp only [List.map_cons, List.map_nil, List.sum_cons, List.sum_nil]; omega
    · simp
  have k2 : ((if w.unt = true then [endV wNA w.to] else []).map Tree.wt).sum ≤ 32 := by
    split
    · simp only [List.map_cons, List.map_nil, List.sum_cons, List.sum_nil]; omega
    · simp
  have k3 : wValid.length = 5 := rfl
  omega
theorem pairT_wt (w : List UInt8) (v : Tree) : (pairT w v).wt = 2 + w.length + v.wt := by
  unfold pairT
  rw [wt_listT]
  simp only [List.map_cons, List.map_nil, List.sum_cons, List.sum_nil, wt_atomT]
  omega
theorem issV_wt {c : Ct} (hm : keyMay c.ks c.kd = true) : (issV c).wt ≤ 300 + c.kd.length + c.label.length := by
  have ho := out_wt (s := c.ks) (d := c.kd)
  rw [keyOut, if_pos hm] at ho
  unfold issV
  split
  · omega
  · rw [wt_listT]
    have : tName.length = 4 := rfl
    simp only [List.map_cons, List.map_nil, List.sum_cons, List.sum_nil, wt_atomT]
    omega
theorem propT_wt : propT.wt = 11 := by
  unfold propT
  rw [wt_listT]
  simp only [List.map_cons, List.map_nil, List.sum_cons, List.sum_nil, wt_atomT]
  rfl
theorem cval_wt {c : Ct} (hf : c.fit) : (cvalO c).wt ≤ 30000000 := by
  unfold cvalO
  split
  · rename_i h
    unfold all3 at h
    simp only [Bool.and_eq_true] at h
    obtain ⟨h1, h2, h3⟩ := h
    rw [Sb.may, Bool.and_eq_true] at h2
    have a1 := issV_wt h1
    have a2 := sval_wt hf.sub h2.1
    have a3 := val_wt c.tag
    have a4 := winV_wt c.win
    have f1 := hf.kd
    have f2 := hf.label
    have f3 := hf.wt
    have f4 := hf.nodes
    have r1 : ((rightsO c).map Tree.wt).sum ≤ 2100000 := by
      unfold rightsO
      have k : wTagW.length = 3 := rfl
      have e : (if tMay c.tag = true then c.tag.val else zeroT).wt ≤ 2040000 := by
        split
        · omega
        · rw [zeroT_wt]; omega
      split
      · rw [List.map_append, List.sum_append, List.map_cons, List.map_nil, List.sum_cons, List.sum_nil, pairT_wt]
        have : ((if c.dlg = true then [propT] else []).map Tree.wt).sum ≤ 11 := by
          split
          · rw [List.map_cons, List.map_nil, List.sum_cons, List.sum_nil, propT_wt]; omega
          · simp
        omega
      · simp
    have r2 : ((winO c.win).map Tree.wt).sum ≤ 101 := by
      unfold winO
      split
      · simp
      · rw [List.map_cons, List.map_nil, List.sum_cons, List.sum_nil]
        split
        · omega
        · rw [zeroT_wt]; omega
    have k1 : wCert.length = 4 := rfl
    have k2 : wIssuer.length = 6 := rfl
    have k3 : wSubject.length = 7 := rfl
    rw [wt_listT]
    simp only [List.map_cons, List.sum_cons, List.map_append, List.sum_append, wt_atomT, pairT_wt]
    omega
  · rw [zeroT_wt]
    omega
section
variable {G : Nat → Option (List D)}
noncomputable def cputD (c : Ct) : DR := .many [.g (treeC (if c.may then c.val else zeroT)), .c (.v (.int .i64 (if c.may then 0 else 3)))]
theorem cput_m (hG : G 0 = some powD) (c : Ct) {cs : List D} (hcs : ctC c = cs) (hf : c.fit) : Spec Tryz.prog G 15 [.g cs] (cputD c) := by
  subst hcs
  have h1 := cvalue_m (G := G) hG c rfl hf
  have h2 := sxmay_m (G := G) hG (cvalO c) rfl (cval_wt hf)
  have hm : c.may = (c.ok && (cvalO c).may) := by
    rw [Ct.may]
    cases hk : c.ok with
    | false => rfl
    | true => rw [cval_ok hk]
  have hv : c.ok = true → cvalO c = c.val := cval_ok
  obtain ⟨s1, s2, s3, s4, s5, hs⟩ := sb_cells c.sub
  obtain ⟨t0, t1, t2, t3, t4, t5, t6, t7, t8, t9, ht⟩ := tag_cells c.tag
  have hct : ctC c = [.v (.bool c.ks), bytesD c.kd, bytesD c.label, .v (.int .u8 (c.sub.kind.toNat : Int)), s1, s2, s3, s4, s5, .v (.bool c.dlg), t0, t1, t2, t3, t4, t5, t6, t7, t8, t9, .v (.bool c.win.aft), .v (.int .i64 c.win.frm), .v (.bool c.win.unt), .v (.int .i64 c.win.to)] := by
    unfold ctC wdC
    rw [hs, ht]
    rfl
  unfold cputD
  rw [hm]
  rw [hct] at h1 ⊢
  clear hs ht hct hm
  generalize (cvalO c).may = q at *
  generalize cvalO c = V at *
  generalize c.ok = ok at *
  rw [treeC_eq V] at h1 h2
  cases ok with
  | false =>
    rw [Bool.false_and, if_neg (by decide), if_neg (by decide), zeroT_C]
    clear hv
    simp only [bD, bytesD] at *
    refine spec_of Tryz.func15 rfl rfl rfl (by kernel_rfl) rfl fun K => ?_
    (repeat' (first | with_reducible (first | refine zA fun Kn hK => ?_ | refine zB (by kernel_rfl) ?_ | refine Nx.go ?_ | go_step) | (refine ⟨_, h1, ?_⟩) | (refine ⟨_, h2, ?_⟩) | with_reducible (first | refine zI ?_ | refine zJ ?_ | refine zK ?_ ?_ | refine zL ?_ ?_ | refine zR (by kernel_rfl) ?_) | simp (maxSteps := 9999999) (disch := omega) only [wq] | (with_reducible refine zM (fun hb => ?_) (fun hb => ?_) <;> (try simp only [hb])) | (with_reducible refine And.intro (by first | omega | (simp; done) | (simp; omega)) ?_) | simp (maxSteps := 9999999) (implicitDefEqProofs := false) only [go_sem, decide_true, bne, Bool.not_true, Bool.not_false] | fail))
    all_goals rfl
  | true =>
    rw [Bool.true_and]
    have hv := hv rfl
    cases q with
    | false =>
      rw [if_neg (by decide), if_neg (by decide), zeroT_C]
      clear hv
      simp only [bD, bytesD] at *
      refine spec_of Tryz.func15 rfl rfl rfl (by kernel_rfl) rfl fun K => ?_
      (repeat' (first | with_reducible (first | refine zA fun Kn hK => ?_ | refine zB (by kernel_rfl) ?_ | refine Nx.go ?_ | go_step) | (refine ⟨_, h1, ?_⟩) | (refine ⟨_, h2, ?_⟩) | with_reducible (first | refine zI ?_ | refine zJ ?_ | refine zK ?_ ?_ | refine zL ?_ ?_ | refine zR (by kernel_rfl) ?_) | simp (maxSteps := 9999999) (disch := omega) only [wq] | (with_reducible refine zM (fun hb => ?_) (fun hb => ?_) <;> (try simp only [hb])) | (with_reducible refine And.intro (by first | omega | (simp; done) | (simp; omega)) ?_) | simp (maxSteps := 9999999) (implicitDefEqProofs := false) only [go_sem, decide_true, bne, Bool.not_true, Bool.not_false] | fail))
      all_goals rfl
    | true =>
      rw [if_pos rfl, if_pos rfl, ← hv]
      rw [treeC_eq V]
      clear hv
      simp only [bD, bytesD] at *
      refine spec_of Tryz.func15 rfl rfl rfl (by kernel_rfl) rfl fun K => ?_
      (repeat' (first | with_reducible (first | refine zA fun Kn hK => ?_ | refine zB (by kernel_rfl) ?_ | refine Nx.go ?_ | go_step) | (refine ⟨_, h1, ?_⟩) | (refine ⟨_, h2, ?_⟩) | with_reducible (first | refine zI ?_ | refine zJ ?_ | refine zK ?_ ?_ | refine zL ?_ ?_ | refine zR (by kernel_rfl) ?_) | simp (maxSteps := 9999999) (disch := omega) only [wq] | (with_reducible refine zM (fun hb => ?_) (fun hb => ?_) <;> (try simp only [hb])) | (with_reducible refine And.intro (by first | omega | (simp; done) | (simp; omega)) ?_) | simp (maxSteps := 9999999) (implicitDefEqProofs := false) only [go_sem, decide_true, bne, Bool.not_true, Bool.not_false] | fail))
      all_goals rfl
end
end Go.Proofs.YtfammdfpgccnfaaGreatDoor
/- The program's lengths in decimal: octet.GetLen, of at most eight. -/
namespace Go.Proofs.YtfammdfpgccnfaaGreatDoor
open Go.RowKit
section
variable {G : Nat → Option (List D)}
end
end Go.Proofs.YtfammdfpgccnfaaGreatDoor
/- Subjects: the program's read. -/
namespace Go.Proofs.YtfammdfpgccnfaaGreatDoor
open Go.RowKit
section
variable {G : Nat → Option (List D)}
end
end Go.Proofs.YtfammdfpgccnfaaGreatDoor
/- Subjects: the program's Get. -/
namespace Go.Proofs.YtfammdfpgccnfaaGreatDoor
open Go.RowKit
section
variable {G : Nat → Option (List D)}
end
end Go.Proofs.YtfammdfpgccnfaaGreatDoor
/- Windows: the program's Get. -/
namespace Go.Proofs.YtfammdfpgccnfaaGreatDoor
open Go.RowKit
section
variable {G : Nat → Option (List D)}
end
end Go.Proofs.YtfammdfpgccnfaaGreatDoor
/- Tags: the program's Get: what is thrown is caught. -/
namespace Go.Proofs.YtfammdfpgccnfaaGreatDoor
open Go.RowKit
section
variable {P : Program} {w : World} {ops : Array Oper} {rest : List Oper} {o : Oper} {a : Act} {Q : Exit → Act → World → Prop}
end
section
variable {G : Nat → Option (List D)}
end
end Go.Proofs.YtfammdfpgccnfaaGreatDoor
/- Certificates: the program's part. -/
namespace Go.Proofs.YtfammdfpgccnfaaGreatDoor
open Go.RowKit
section
variable {G : Nat → Option (List D)}
end
end Go.Proofs.YtfammdfpgccnfaaGreatDoor
/- Subjects: the program's Same. -/
namespace Go.Proofs.YtfammdfpgccnfaaGreatDoor
open Go.RowKit
noncomputable def Sb.same (t u : Sb) : Bool := @decide (t = u) (Classical.propDecidable _)
theorem ssame_iff {t u : Sb} : t.same u = true ↔ t = u := by
  unfold Sb.same
  exact @decide_eq_true_iff _ (Classical.propDecidable _)
noncomputable def sameLS (t u : List Sb) : Bool := @decide (t = u) (Classical.propDecidable _)
theorem sameLS_t {l m : List Sb} (h : l = m) : sameLS l m = true := by
  unfold sameLS
  exact @decide_eq_true _ (Classical.propDecidable _) h
theorem sameLS_f {l m : List Sb} (h : l ≠ m) : sameLS l m = false := by
  unfold sameLS
  exact @decide_eq_false _ (Classical.propDecidable _) h
theorem sameLS_of {l m : List Sb} (h : sameLS l m = true) : l = m := by
  unfold sameLS at h
  exact @of_decide_eq_true _ (Classical.propDecidable _) h
section
variable {G : Nat → Option (List D)}
theorem eqfuncN_m (l m : List (List UInt8)) (hl : l.length ≤ 100000000) :
    Spec Tryz.prog G 78 [.c (.sl l.length (l.map bytesD)), .c (.sl m.length (m.map bytesD)), .c (.v (.func (.func 39) #[] #[]))] (.one (.c (.v (.bool (decide (l = m)))))) := by
  refine spec_of Tryz.func78 rfl rfl rfl (by kernel_rfl) rfl fun K => ?_
  by_cases hn : l.length = m.length
  · have d1 : ((l.length : Int) == (m.length : Int)) = true := by simp [hn]
    (repeat' (first | with_reducible (first | refine zA fun Kn hK => ?_ | refine zB (by kernel_rfl) ?_ | refine Nx.go ?_ | go_step) | fail | with_reducible (first | refine zI ?_ | refine zJ ?_ | refine zK ?_ ?_ | refine zL ?_ ?_ | refine zR (by kernel_rfl) ?_) | simp (maxSteps := 9999999) (disch := omega) only [wq] | (with_reducible refine zM (fun hb => ?_) (fun hb => ?_) <;> (try simp only [hb])) | (with_reducible refine And.intro (by first | omega | (simp; done) | (simp; omega)) ?_) | simp (maxSteps := 9999999) (implicitDefEqProofs := false) only [go_sem, d1] | fail))
    refine sound_loopR (fun x : {k : Nat // k ≤ l.length ∧ l.take k = m.take k} => ⟨[(1, vD (.sl m.length (m.map bytesD))), (2, vD (.v (.func (.func 39) #[] #[]))), (15, vD (.sl l.length (l.map bytesD))), (16, vI l.length), (17, vI x.1)], []⟩) (fun x => l.length - x.1) ⟨0, by simp⟩ [] (by (iterate 2 ((try simp (maxSteps := 9999999) (implicitDefEqProofs := false) only [go_sem, true_and]); (try simp (maxSteps := 9999999) (disch := omega) only [wq]))); try simp) (fun ⟨k, hk, hall⟩ => ?_)
    by_cases hlt : k < l.length
    · obtain ⟨x, hx⟩ : ∃ x, l[k]? = some x := ⟨_, List.getElem?_eq_getElem hlt⟩
      obtain ⟨y, hy⟩ : ∃ y, m[k]? = some y := ⟨_, List.getElem?_eq_getElem (by omega)⟩
      have hb : decide ((k : Int) < (l.length : Int)) = true := by simpa using hlt
      have hlm : k < m.length := by omega
      (repeat' (first | with_reducible (first | refine zA fun Kn hK => ?_ | refine zB (by kernel_rfl) ?_ | refine Nx.go ?_ | go_step) | (refine ⟨_, equal_m (G := G) x y, ?_⟩) | with_reducible (first | refine zI ?_ | refine zJ ?_ | refine zK ?_ ?_ | refine zL ?_ ?_ | refine zR (by kernel_rfl) ?_) | simp (maxSteps := 9999999) (disch := omega) only [wq] | (with_reducible refine zM (fun hb => ?_) (fun hb => ?_) <;> (try simp only [hb])) | (with_reducible refine And.intro (by first | omega | (simp; done) | (simp; omega)) ?_) | simp (maxSteps := 9999999) (implicitDefEqProofs := false) only [go_sem, hb, row_at hx, row_at hy, List.length_map] | fail))
      · refine ⟨[], ⟨k + 1, hlt, ?_⟩, ?_⟩
        · rw [List.take_add_one, List.take_add_one, hx, hy, hall, eq_of_beq hb]
        · (iterate 2 ((try simp (maxSteps := 9999999) (implicitDefEqProofs := false) only [go_sem, true_and]); (try simp (maxSteps := 9999999) (disch := omega) only [wq])))
          try (simp only [ijq, true_and, and_true]; first | done | omega | (split <;> omega) | (simp; done) | (simp; omega))
      · rw [decide_eq_false]
        rintro rfl
        rw [hx] at hy
        injection hy with hy
        subst hy
        first | (rw [ssame_iff.2 rfl] at hb; cases hb) | (simp at hb)
    · have hb : decide ((k : Int) < (l.length : Int)) = false := by simpa using hlt
      obtain rfl : k = l.length := by omega
      rw [List.take_length, hn, List.take_length] at hall
      (repeat' (first | with_reducible (first | refine zA fun Kn hK => ?_ | refine zB (by kernel_rfl) ?_ | refine Nx.go ?_ | go_step) | fail | with_reducible (first | refine zI ?_ | refine zJ ?_ | refine zK ?_ ?_ | refine zL ?_ ?_ | refine zR (by kernel_rfl) ?_) | simp (maxSteps := 9999999) (disch := omega) only [wq] | (with_reducible refine zM (fun hb => ?_) (fun hb => ?_) <;> (try simp only [hb])) | (with_reducible refine And.intro (by first | omega | (simp; done) | (simp; omega)) ?_) | simp (maxSteps := 9999999) (implicitDefEqProofs := false) only [go_sem, hb] | fail))
      rw [decide_eq_true hall]
  · have d1 : ((l.length : Int) == (m.length : Int)) = false := by
      rw [beq_eq_false_iff_ne]
      omega
    (repeat' (first | with_reducible (first | refine zA fun Kn hK => ?_ | refine zB (by kernel_rfl) ?_ | refine Nx.go ?_ | go_step) | fail | with_reducible (first | refine zI ?_ | refine zJ ?_ | refine zK ?_ ?_ | refine zL ?_ ?_ | refine zR (by kernel_rfl) ?_) | simp (maxSteps := 9999999) (disch := omega) only [wq] | (with_reducible refine zM (fun hb => ?_) (fun hb => ?_) <;> (try simp only [hb])) | (with_reducible refine And.intro (by first | omega | (simp; done) | (simp; omega)) ?_) | simp (maxSteps := 9999999) (implicitDefEqProofs := false) only [go_sem, d1] | fail))
    rw [decide_eq_false]
    rintro rfl
    exact hn rfl
theorem eqfuncS_m (l m : List Sb) (hl : l.length ≤ 100000000)
    (ih : ∀ x ∈ l, ∀ (u : Sb) (cs ds : List D), sbC x = cs → sbC u = ds → Spec Tryz.prog G 40 [.g cs, .g ds] (.one (.c (.v (.bool (x.same u)))))) :
    Spec Tryz.prog G 79 [.c (.sl l.length (l.flatMap sbC)), .c (.sl m.length (m.flatMap sbC)), .c (.v (.func (.func 40) #[] #[]))] (.one (.c (.v (.bool (sameLS l m))))) := by
  refine spec_of Tryz.func79 rfl rfl rfl (by kernel_rfl) rfl fun K => ?_
  by_cases hn : l.length = m.length
  · have d1 : ((l.length : Int) == (m.length : Int)) = true := by simp [hn]
    (repeat' (first | with_reducible (first | refine zA fun Kn hK => ?_ | refine zB (by kernel_rfl) ?_ | refine Nx.go ?_ | go_step) | fail | with_reducible (first | refine zI ?_ | refine zJ ?_ | refine zK ?_ ?_ | refine zL ?_ ?_ | refine zR (by kernel_rfl) ?_) | simp (maxSteps := 9999999) (disch := omega) only [wq] | (with_reducible refine zM (fun hb => ?_) (fun hb => ?_) <;> (try simp only [hb])) | (with_reducible refine And.intro (by first | omega | (simp; done) | (simp; omega)) ?_) | simp (maxSteps := 9999999) (implicitDefEqProofs := false) only [go_sem, d1] | fail))
    refine sound_loopR (fun x : {k : Nat // k ≤ l.length ∧ l.take k = m.take k} => ⟨[(1, vD (.sl m.length (m.flatMap sbC))), (2, vD (.v (.func (.func 40) #[] #[]))), (15, vD (.sl l.length (l.flatMap sbC))), (16, vI l.length), (17, vI x.1)], []⟩) (fun x => l.length - x.1) ⟨0, by simp⟩ [] (by (iterate 2 ((try simp (maxSteps := 9999999) (implicitDefEqProofs := false) only [go_sem, true_and]); (try simp (maxSteps := 9999999) (disch := omega) only [wq]))); try simp) (fun ⟨k, hk, hall⟩ => ?_)
    by_cases hlt : k < l.length
    · obtain ⟨x, hx⟩ : ∃ x, l[k]? = some x := ⟨_, List.getElem?_eq_getElem hlt⟩
      obtain ⟨y, hy⟩ : ∃ y, m[k]? = some y := ⟨_, List.getElem?_eq_getElem (by omega)⟩
      have hb : decide ((k : Int) < (l.length : Int)) = true := by simpa using hlt
      have hlm : k < m.length := by omega
      (repeat' (first | with_reducible (first | refine zA fun Kn hK => ?_ | refine zB (by kernel_rfl) ?_ | refine Nx.go ?_ | go_step) | (refine ⟨_, ih x (List.mem_of_getElem? hx) y _ _ rfl rfl, ?_⟩) | with_reducible (first | refine zI ?_ | refine zJ ?_ | refine zK ?_ ?_ | refine zL ?_ ?_ | refine zR (by kernel_rfl) ?_) | simp (maxSteps := 9999999) (disch := omega) only [wq] | (with_reducible refine zM (fun hb => ?_) (fun hb => ?_) <;> (try simp only [hb])) | (with_reducible refine And.intro (by first | omega | (simp; done) | (simp; omega)) ?_) | simp (maxSteps := 9999999) (implicitDefEqProofs := false) only [go_sem, hb, flat_at sbC_len hx, flat_at sbC_len hy, List.length_map] | fail))
      · refine ⟨[], ⟨k + 1, hlt, ?_⟩, ?_⟩
        · rw [List.take_add_one, List.take_add_one, hx, hy, hall, ssame_iff.1 hb]
        · (iterate 2 ((try simp (maxSteps := 9999999) (implicitDefEqProofs := false) only [go_sem, true_and]); (try simp (maxSteps := 9999999) (disch := omega) only [wq])))
          try (simp only [ijq, true_and, and_true]; first | done | omega | (split <;> omega) | (simp; done) | (simp; omega))
      · rw [sameLS_f]
        rintro rfl
        rw [hx] at hy
        injection hy with hy
        subst hy
        first | (rw [ssame_iff.2 rfl] at hb; cases hb) | (simp at hb)
    · have hb : decide ((k : Int) < (l.length : Int)) = false := by simpa using hlt
      obtain rfl : k = l.length := by omega
      rw [List.take_length, hn, List.take_length] at hall
      (repeat' (first | with_reducible (first | refine zA fun Kn hK => ?_ | refine zB (by kernel_rfl) ?_ | refine Nx.go ?_ | go_step) | fail | with_reducible (first | refine zI ?_ | refine zJ ?_ | refine zK ?_ ?_ | refine zL ?_ ?_ | refine zR (by kernel_rfl) ?_) | simp (maxSteps := 9999999) (disch := omega) only [wq] | (with_reducible refine zM (fun hb => ?_) (fun hb => ?_) <;> (try simp only [hb])) | (with_reducible refine And.intro (by first | omega | (simp; done) | (simp; omega)) ?_) | simp (maxSteps := 9999999) (implicitDefEqProofs := false) only [go_sem, hb] | fail))
      rw [sameLS_t hall]
  · have d1 : ((l.length : Int) == (m.length : Int)) = false := by
      rw [beq_eq_false_iff_ne]
      omega
    (repeat' (first | with_reducible (first | refine zA fun Kn hK => ?_ | refine zB (by kernel_rfl) ?_ | refine Nx.go ?_ | go_step) | fail | with_reducible (first | refine zI ?_ | refine zJ ?_ | refine zK ?_ ?_ | refine zL ?_ ?_ | refine zR (by kernel_rfl) ?_) | simp (maxSteps := 9999999) (disch := omega) only [wq] | (with_reducible refine zM (fun hb => ?_) (fun hb => ?_) <;> (try simp only [hb])) | (with_reducible refine And.intro (by first | omega | (simp; done) | (simp; omega)) ?_) | simp (maxSteps := 9999999) (implicitDefEqProofs := false) only [go_sem, d1] | fail))
    rw [sameLS_f]
    rintro rfl
    exact hn rfl
theorem ssame_m : ∀ (t u : Sb) (cs ds : List D), sbC t = cs → sbC u = ds → t.fit → Spec Tryz.prog G 40 [.g cs, .g ds] (.one (.c (.v (.bool (t.same u))))) := Sb.ind fun t ih u cs ds hcs hds hf => by
  subst hcs hds
  obtain ⟨f1, f2, f3, f4⟩ := hf.here
  have he := u8_beq t.kind u.kind
  have hq := ksame_m (G := G) t.ks u.ks t.kd u.kd
  have hn := eqfuncN_m (G := G) t.names u.names (by omega)
  have hk := eqfuncS_m (G := G) t.kids u.kids (by omega) (fun x hx v cs ds h1 h2 => ih x hx v cs ds h1 h2 (hf.kid hx))
  have hs : t.same u = (t.kind == u.kind && (t.k == u.k && ((t.ks == u.ks && t.kd == u.kd) && (decide (t.names = u.names) && sameLS t.kids u.kids)))) := by
    rw [Bool.eq_iff_iff]
    simp only [Bool.and_eq_true, beq_iff_eq, decide_eq_true_eq]
    refine ⟨fun h => ?_, fun ⟨h1, h2, ⟨h3, h4⟩, h5, h6⟩ => ?_⟩
    · cases ssame_iff.1 h
      exact ⟨rfl, rfl, ⟨rfl, rfl⟩, rfl, sameLS_t rfl⟩
    · rw [ssame_iff, t.eta, u.eta, h1, h2, h3, h4, h5, sameLS_of h6]
  rw [hs]
  generalize (t.ks == u.ks && t.kd == u.kd) = z3 at *
  generalize decide (t.names = u.names) = z4 at *
  generalize sameLS t.kids u.kids = z5 at *
  rw [sbC_eq, sbC_eq]
  clear hs ih
  generalize (t.kind == u.kind) = z1 at *
  obtain ⟨z2, hz2⟩ : ∃ z, (t.k == u.k) = z := ⟨_, rfl⟩
  rw [hz2]
  unfold keyC bD bytesD at *
  cases z1 <;> cases z2 <;> cases z3 <;> cases z4
  all_goals
    refine spec_of Tryz.func40 rfl rfl rfl (by kernel_rfl) rfl fun K => ?_
    (repeat' (first | with_reducible (first | refine zA fun Kn hK => ?_ | refine zB (by kernel_rfl) ?_ | refine Nx.go ?_ | go_step) | (refine ⟨_, hq, ?_⟩) | (refine ⟨_, hn, ?_⟩) | (refine ⟨_, hk, ?_⟩) | with_reducible (first | refine zI ?_ | refine zJ ?_ | refine zK ?_ ?_ | refine zL ?_ ?_ | refine zR (by kernel_rfl) ?_) | simp (maxSteps := 9999999) (disch := omega) only [wq] | (with_reducible refine zM (fun hb => ?_) (fun hb => ?_) <;> (try simp only [hb])) | (with_reducible refine And.intro (by first | omega | (simp; done) | (simp; omega)) ?_) | simp (maxSteps := 9999999) (implicitDefEqProofs := false) only [go_sem, he, hz2, decide_true] | fail))
    all_goals rfl
end
end Go.Proofs.YtfammdfpgccnfaaGreatDoor
