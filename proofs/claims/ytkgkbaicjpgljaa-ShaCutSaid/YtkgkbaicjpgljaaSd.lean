/- The first primes, as the program finds them. -/
import Derived.Test.YtkgkbaicjpgljaaSc
import Derived.Deep.WholeRow
import Derived.Deep.LoopGhost
namespace Go.Proofs.Ytkgkbaicjpgljaa
open Go.RowKit Go.Lib
set_option linter.unusedVariables false

def primeStep (ps : List Nat) (p : Nat) : List Nat := if ps.any (fun q => p % q == 0) then ps else ps ++ [p]
def primesTo : Nat → List Nat
  | 0 => []
  | n + 1 => primeStep (primesTo n) (n + 2)
def primesL : List Nat := primesTo 408
theorem primes_short : ∀ k, k < 408 → (primesTo k).length < 80 := by decide +kernel
theorem primes_end : (primesTo 408).length = 80 := by decide +kernel
theorem primes_mem : ∀ k, ∀ q ∈ primesTo k, 2 ≤ q ∧ q ≤ k + 1
  | 0, q, h => by cases h
  | k + 1, q, h => by
    unfold primesTo primeStep at h
    split at h
    · have := primes_mem k q h
      omega
    · rcases List.mem_append.1 h with h | h
      · have := primes_mem k q h
        omega
      · simp at h
        omega
def zeros (n : Nat) : List Nat := List.replicate n 0
theorem zeros_len (n : Nat) : (zeros n).length = n := List.length_replicate
def padL (n : Nat) (ps : List Nat) : List Nat := ps ++ List.replicate (n - ps.length) 0
theorem padL_nil (n : Nat) : padL n [] = zeros n := by simp [padL, zeros]
theorem padL_len {n : Nat} {ps : List Nat} (h : ps.length ≤ n) : (padL n ps).length = n := by
  unfold padL
  rw [List.length_append, List.length_replicate]
  omega
theorem padL_get {n i : Nat} {ps : List Nat} (h : i < ps.length) : (padL n ps).getD i 0 = ps.getD i 0 := by
  unfold padL
  simp [List.getD, List.getElem?_append_left h]
theorem padL_set {n p : Nat} {ps : List Nat} (h : ps.length < n) : (padL n ps).set ps.length p = padL n (ps ++ [p]) := by
  unfold padL
  rw [List.set_append_right _ _ (Nat.le_refl _), Nat.sub_self, List.length_append, List.length_singleton, List.append_assoc]
  congr 1
  obtain ⟨k, hk⟩ : ∃ k, n - ps.length = k + 1 := ⟨n - ps.length - 1, by omega⟩
  rw [hk, List.replicate_succ, List.set_cons_zero, show n - (ps.length + 1) = k by omega]
  rfl

theorem any_take_succ {ps : List Nat} {p i : Nat} (hi : i < ps.length) (h : (ps.take i).any (fun q => p % q == 0) = false) (hq : p % ps.getD i 0 ≠ 0) : (ps.take (i + 1)).any (fun q => p % q == 0) = false := by
  have e : ps[i]? = some (ps.getD i 0) := by simp [List.getD, hi]
  rw [List.take_add_one, e, List.any_append, h]
  simpa using hq
theorem any_found {ps : List Nat} {p i : Nat} (hi : i < ps.length) (hq : p % ps.getD i 0 = 0) : ps.any (fun q => p % q == 0) = true := by
  rw [List.any_eq_true]
  refine ⟨ps.getD i 0, ?_, by simpa using hq⟩
  simp [List.getD, hi]
theorem run_slice_arr {P : Program} {t e : TypeId} {N n : Nat} (g : Nat) (hu : P.underlying t = some (.array N e)) (hi : (P.info? e).map (·.size) = some 1) (hn : n ≤ N) (w : World) :
    (Instr.sliceAt t (.pointer (some ⟨g, 0, none⟩)) none (some (.int .i64 (n : Int))) none).run P w = .ok (.slice (some ⟨g, 0, none⟩) n N) w := by
  cases hq : P.info? e with
  | none => simp [hq] at hi
  | some i =>
    have h1 : i.size = 1 := by simpa [hq] using hi
    simp [Instr.sliceAt, Instr.sureAddr, run_underlying hu, Instr.sliceBounds, run_sliceBound, sizeOf, typeInfo, hq, hn, Addr.add_lit]
theorem word_rem2 (a b : Nat) : ((a : Int) + 2) % (b : Int) = (((a + 2) % b : Nat) : Int) := rfl

set_option maxHeartbeats 4000000 in
set_option maxRecDepth 100000 in
theorem primes_c (w : World) :
    Calls Try.prog 46 #[] w fun e w' => e = .returned (.agg (wcells primesL)) ∧ Below w.heap.size w w' := by
  have z80 := (zero_of_info (P := Try.prog) (t := 70) (v := .agg (wcells (zeros 80))) (n := 80) (by kernel_rfl)).1
  go_enter Try.func46, Try.ntmps46
  go_wp2
  go_step3
  go_wp2
  go_step3
  go_wp2
  go_loopg [2, 3] 408 (fun g n p wr => ∃ (k : Nat) (ps : List Nat), k + g = 408 ∧ Hid (ps = primesTo k) ∧ ps.length ≤ 80 ∧ n = .int .i64 (ps.length : Nat) ∧ p = .int .u64 ((k + 2 : Nat) : Int) ∧
    wr.heap[w.heap.size]? = some (.cells (wcells (zeros 80)) 70 (0, 0)) ∧ wr.heap[w.heap.size + 1]? = some (.cells (wcells (padL 80 ps)) 70 (0, 0)) ∧ Below w.heap.size w wr)
  case atStart => exact ⟨0, [], by omega, rfl, by simp, rfl, rfl, box_alloc (box_at2 rfl) _, by rw [padL_nil]; exact box_at2 (by simp), by go_grown⟩
  case round =>
    obtain ⟨k, ps, hkg, HK, hpl, rfl, rfl, hbr, hbo, hB⟩ := hrel
    cases gk with
    | zero =>
      have hk : k = 408 := by omega
      have hpe : ps.length = 80 := by rw [HK.out, hk]; exact primes_end
      have HP : Hid (ps = primesL) := by show _ = _; rw [HK.out, hk]; rfl
      have hpd : padL 80 ps = ps := by unfold padL; rw [hpe]; simp
      rw [hpd] at hbo
      have hge : ¬ ((ps.length : Int) < 80) := by omega
      clear hk hpd
      have HE := Lib.hid hpe
      clear hpe
      go_wp2_with (refine halt_load (ty := 70) rfl ?_)
      refine go_onO (wpList_loadW rfl _ _ rfl _ rfl ps HE.out hbo Try.underlying70 (by kernel_rfl) ?_)
      go_wp2_with (refine halt_store (ty := 70) rfl ?_)
      refine go_onO (wpList_storeW rfl _ _ _ rfl _ ps rfl rfl HE.out hbr (by rw [wcells_size, zeros_len]) (by kernel_rfl) ?_)
      intro w7 hbr7 hg7 hs7
      go_wp2
      (try rw [Exit.noGoto_ret])
      refine bodyPost_ret (results_cell_row rfl _ _ w.heap.size 70 (wcells ps) (0, 0) _ rfl hbr7 Try.underlying70 rfl (by rw [wcells_size, HE.out]; kernel_rfl)) rfl ?_
      exact ⟨by rw [HP.out], hB.grown hg7 (by have := hB.size; omega) (fun k e => by injection e; omega)⟩
    | succ g =>
      have hps : ps.length < 80 := by rw [HK.out]; exact primes_short k (by omega)
      have hsl := fun (v : World) => run_slice_arr (w.heap.size + 1) Try.underlying70 (by kernel_rfl) hpl v
      go_wp2
      go_loopg [13] ps.length (fun g2 ix wy => ∃ j : Nat, j + g2 = ps.length ∧ ix = .int .i64 j ∧ Hid ((ps.take j).any (fun q => (k + 2) % q == 0) = false) ∧ wr = wy)
      case atStart => exact ⟨0, by omega, rfl, rfl, rfl⟩
      case round =>
        obtain ⟨j, hjg, rfl, HJ, rfl⟩ := hrel
        cases gk with
        | zero =>
          have hj : j = ps.length := by omega
          have HN : Hid (ps ++ [k + 2] = primesTo (k + 1)) := by
            show _ = _
            have := HJ.out
            rw [hj, List.take_length] at this
            rw [primesTo, ← HK.out, primeStep, this]
            rfl
          subst hj
          have c3 := wcell_at hbo (i := ps.length) (by rw [padL_len hpl]; exact hps)
          have f3 := boxed_frozen hbo ps.length
          go_wp2
          go_roundg g
          case measure => omega
          case rel => exact ⟨k + 1, ps ++ [k + 2], by omega, HN, by rw [List.length_append, List.length_singleton]; omega, by simp, by go_num, box_far hbr (by simp only; omega) _, by rw [← padL_set hps]; exact wcell_set hbo _ _, hB.setCell (by simp only; omega) _⟩
        | succ g2 =>
          have hjl : j < ps.length := by omega
          have c3 := wcell_at hbo (i := j) (by rw [padL_len hpl]; omega)
          rw [padL_get hjl] at c3
          have hq2 : 2 ≤ ps.getD j 0 := by
            have : ps.getD j 0 ∈ ps := by simp [List.getD, hjl]
            rw [HK.out] at this ⊢
            exact (primes_mem k _ this).1
          have HW := Lib.hid (word_rem2 k (ps.getD j 0))
          by_cases hr : (k + 2) % ps.getD j 0 = 0
          · have HN : Hid (ps = primesTo (k + 1)) := by
              show _ = _
              rw [primesTo, ← HK.out, primeStep, any_found hjl hr]
              rfl
            have W := HW.out
            rw [hr] at W
            generalize ps.getD j 0 = q at *
            clear hr
            go_wp2
            go_roundg g
            case measure => omega
            case rel => exact ⟨k + 1, ps, by omega, HN, hpl, rfl, by go_num, hbr, hbo, hB⟩
          · have HJ2 : Hid ((ps.take (j + 1)).any (fun q => (k + 2) % q == 0) = false) := any_take_succ hjl HJ.out hr
            have W := HW.out
            have hr1 : 0 < (k + 2) % ps.getD j 0 := by omega
            generalize (k + 2) % ps.getD j 0 = r at *
            generalize ps.getD j 0 = q at *
            have hne : ((r : Int) == 0) = false := by simp only [beq_eq_false_iff_ne, ne_eq]; omega
            clear hr
            go_wp2
            go_roundg g2
            case measure => omega
            case rel => exact ⟨j + 1, by omega, by go_num, HJ2, rfl⟩
end Go.Proofs.Ytkgkbaicjpgljaa
