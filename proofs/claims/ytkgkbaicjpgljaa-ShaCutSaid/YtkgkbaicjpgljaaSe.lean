/- The tables of words: the first words, and the constants. -/
import Derived.Test.YtkgkbaicjpgljaaSd
namespace Go.Proofs.Ytkgkbaicjpgljaa
open Go.RowKit Go.Lib
set_option linter.unusedVariables false

section
variable {P : Program} {w : World} {ops : Array Oper} {rest : List Oper} {o : Oper} {a : Act} {Q : Exit → Act → World → Prop} {K : Act → World → Prop}
theorem wpOp_plain {i : Nat} {o : Oper} (hi : ops[i]? = some o) (hg : o.guard = none) (h : o.wp P a w K Q) : wpOp P ops Q i K a w := by
  unfold wpOp
  rw [hi]
  simp only [Region.wanted, hg, if_true]
  exact .inl h
theorem wp_loadW (ty : TypeId) (x : Operand) (ho : o.op = .load ty x) (g : Nat) (hx : a.eval x = .pointer (some ⟨g, 0, none⟩)) (xs : List Nat) {k : Nat} (hl : xs.length = k) {t e : TypeId}
    (hg : w.heap[g]? = some (.cells (wcells xs) t (0, 0))) (hu : P.underlying ty = some (.array k e)) (hi : (P.info? ty).map (·.size) = some k)
    (h : K (a.put o.dst (.agg (wcells xs))) w) : o.wp P a w K Q :=
  wp_load_row ty x ho g hx t (wcells xs) (0, 0) _ hg hu rfl (by rw [wcells_size, hl]; exact hi) h
theorem wp_storeW (ty : TypeId) (x y : Operand) (ho : o.op = .store ty x y) (g : Nat) (ys : List Nat) (hx : a.eval x = .pointer (some ⟨g, 0, none⟩)) (hy : a.eval y = .agg (wcells ys)) {k : Nat} (hl : ys.length = k) {t : TypeId} {old : Array Value}
    (hg : w.heap[g]? = some (.cells old t (0, 0))) (hold : old.size = k) (hi : (P.info? ty).map (·.size) = some k)
    (h : ∀ w' : World, w'.heap[g]? = some (.cells (wcells ys) t (0, 0)) → w.grownBy w' (some g) → w'.heap.size = w.heap.size → K (a.put o.dst undef) w') : o.wp P a w K Q := by
  refine wp_store_row ty x y ho g (wcells ys) hx hy t old hg (by rw [wcells_size, hl]; exact hi) (by rw [wcells_size, hl]; exact hold) (wcells_one ys) (h _ (setRow_heap w g old _ t _ hg) ⟨rfl, rfl, rfl, by simp, fun i hi hr => setRow_other w g i _ (by rintro rfl; exact hr rfl)⟩ (by simp))

/-- A row's word by its place. -/
theorem run_index_words {t e : TypeId} {N i : Nat} {d : TypeDesc} (hu : P.underlying t = some (.array N e)) (hs : (P.info? e).map (·.size) = some 1) (he : P.underlying e = some (.int .u64)) {xs : List Nat} (hl : xs.length = N) (hi : i < N) (w : World) :
    (Instr.index t (.agg (wcells xs)) (.int .i64 (i : Int))).run P w = .ok (.int .u64 ((xs.getD i 0 : Nat) : Int)) w := by
  cases hq : P.info? e with
  | none => simp [hq] at hs
  | some q =>
    have h1 : q.size = 1 := by simpa [hq] using hs
    have hx : (wcells xs)[i]? = some (.int .u64 ((xs.getD i 0 : Nat) : Int)) := by simp [wcells, wcell, hl, hi]
    simp [Instr.index, asIntOf, run_underlying hu, sizeOf, typeInfo, hq, h1, part, isAgg, run_underlying he, hi, hx]

theorem results_cell2 {fn : Func} {p q : Tmp} {ty tz : TypeId} (h : fn.results = #[.cell p ty, .cell q tz]) (tmps : Array Value) (w : World) (g k : Nat) (t u : TypeId) (cs ds : Array Value) (fr fs : Nat × Nat) (d e : TypeDesc)
    (hp : tmps.getD p undef = .pointer (some ⟨g, 0, none⟩)) (hg : w.heap[g]? = some (.cells cs t fr)) (hq : tmps.getD q undef = .pointer (some ⟨k, 0, none⟩)) (hk : w.heap[k]? = some (.cells ds u fs))
    (hu : P.underlying ty = some d) (hd : (match d with | .struct _ | .array _ _ => true | _ => false) = true) (hi : (P.info? ty).map (·.size) = some cs.size)
    (hu2 : P.underlying tz = some e) (hd2 : (match e with | .struct _ | .array _ _ => true | _ => false) = true) (hi2 : (P.info? tz).map (·.size) = some ds.size) :
    (results fn tmps).run P w = .ok (.tuple #[.agg cs, .agg ds]) w := by
  have hp' : tmps[p]?.getD undef = .pointer (some ⟨g, 0, none⟩) := by simpa using hp
  have hq' : tmps[q]?.getD undef = .pointer (some ⟨k, 0, none⟩) := by simpa using hq
  simp [results, h, hp', hq', asAddr, run_loadVar_row w g t ty cs fr d hg hu hd hi, run_loadVar_row w k u tz ds fs e hk hu2 hd2 hi2]
end

theorem primesL_len : primesL.length = 80 := primes_end
theorem primesL_lt (i : Nat) : primesL.getD i 0 < m64 := by
  rw [List.getD_eq_getElem?_getD]
  cases h : primesL[i]? with
  | none => decide
  | some q =>
    have := (primes_mem 408 q (List.mem_of_getElem? h)).2
    show q < m64
    unfold m64
    omega
def rootsL (power n : Nat) : List Nat := (primesL.take n).map fun p => rootN p power
theorem rootsL_len {power n : Nat} (h : n ≤ 80) : (rootsL power n).length = n := by
  unfold rootsL
  rw [List.length_map, List.length_take, primesL_len]
  omega
theorem rootsL_succ {power n : Nat} (h : n < 80) : rootsL power (n + 1) = rootsL power n ++ [rootN (primesL.getD n 0) power] := by
  unfold rootsL
  rw [List.take_add_one, show primesL[n]? = some (primesL.getD n 0) by simp [List.getD, primesL_len, h]]
  simp

set_option maxHeartbeats 4000000 in
set_option maxRecDepth 100000 in
theorem tables_c (w : World) :
    Calls Try.prog 38 #[] w fun e w' => e = .returned (.tuple #[.agg (wcells (rootsL 2 8)), .agg (wcells (rootsL 3 80))]) ∧ Below w.heap.size w w' := by
  have z80 := (zero_of_info (P := Try.prog) (t := 70) (v := .agg (wcells (zeros 80))) (n := 80) (by kernel_rfl)).1
  have z8 := (zero_of_info (P := Try.prog) (t := 68) (v := .agg (wcells (zeros 8))) (n := 8) (by kernel_rfl)).1
  have hix := fun (i : Nat) (hi : i < 80) (v : World) => run_index_words (d := .bool) Try.underlying70 (by kernel_rfl) Try.underlying67 primesL_len hi v
  have HIX := Lib.hid hix
  clear hix
  go_enter Try.func38, Try.ntmps38
  go_wp2_with fail
  refine Calls.mono (primes_c _) ?_
  rintro e w1 ⟨rfl, hB1⟩
  have hb0 := box_below (box_alloc (box_alloc (box_alloc (box_new w (wcells (zeros 8)) 68) (.cells (wcells (zeros 80)) 70)) (.cells (wcells (zeros 8)) 68)) (.cells (wcells (zeros 80)) 70)) hB1 (by simp <;> omega)
  have hb1 := box_below (box_alloc (box_alloc (box_new (w.alloc (.cells (wcells (zeros 8)) 68)) (wcells (zeros 80)) 70) (.cells (wcells (zeros 8)) 68)) (.cells (wcells (zeros 80)) 70)) hB1 (by simp <;> omega)
  have hb2 := box_below (box_alloc (box_new ((w.alloc (.cells (wcells (zeros 8)) 68)).alloc (.cells (wcells (zeros 80)) 70)) (wcells (zeros 8)) 68) (.cells (wcells (zeros 80)) 70)) hB1 (by simp <;> omega)
  have hb3 := box_below (box_new (((w.alloc (.cells (wcells (zeros 8)) 68)).alloc (.cells (wcells (zeros 80)) 70)).alloc (.cells (wcells (zeros 8)) 68)) (wcells (zeros 80)) 70) hB1 (by simp <;> omega)
  have hB : Below w.heap.size w w1 := ((((Below.refl _ _).alloc (Nat.le_refl _) _).alloc (by simp) _).alloc (by simp; omega) _ |>.alloc (by simp; omega) _).trans (hB1.mono (by simp; omega))
  have hsz := hB1.size
  simp only [World.size_alloc] at hb1 hb2 hb3 hsz
  clear hB1
  go_wp2
  go_loopw [7] (fun ix wr => ∃ (i : Nat), i ≤ 80 ∧ ix = .int .i64 (i : Nat) ∧ wr.heap[w.heap.size]? = some (.cells (wcells (zeros 8)) 68 (0, 0)) ∧ wr.heap[w.heap.size + 1]? = some (.cells (wcells (zeros 80)) 70 (0, 0)) ∧
    wr.heap[w.heap.size + 1 + 1]? = some (.cells (wcells (padL 8 (rootsL 2 (min i 8)))) 68 (0, 0)) ∧ wr.heap[w.heap.size + 1 + 1 + 1]? = some (.cells (wcells (padL 80 (rootsL 3 i))) 70 (0, 0)) ∧ Below w.heap.size w wr ∧ w.heap.size + 4 ≤ wr.heap.size) (fun ix _ => 80 - (intOf ix).toNat)
  case atStart => exact ⟨0, by omega, rfl, hb0, hb1, hb2, hb3, hB, hsz⟩
  case round =>
    obtain ⟨i, hi, rfl, hbr, hbq, hbf, hba, hB, hs⟩ := hrel
    by_cases hlt : i < 80
    · have hixi := HIX.out i hlt
      have hp := primesL_lt i
      have hrl : (rootsL 3 i).length = i := rootsL_len hi
      have HR3 : Hid (rootsL 3 (i + 1) = rootsL 3 i ++ [rootN (primesL.getD i 0) 3]) := rootsL_succ hlt
      have HR2 : Hid (i < 8 → rootsL 2 (i + 1) = rootsL 2 i ++ [rootN (primesL.getD i 0) 2]) := fun h => rootsL_succ hlt
      have hge : i < (padL 80 (rootsL 3 i)).length := by rw [padL_len (by omega)]; exact hlt
      have HGE := Lib.hid hge
      have HRL := Lib.hid hrl
      clear hge hrl
      generalize primesL.getD i 0 = p at *
      go_wp2_with fail
      refine Calls.mono (root_3 p hp _) ?_
      rintro e w2 ⟨rfl, hg2⟩
      have hs2 := hg2.size
      have hbr2 := box_below hbr hg2 (by omega)
      have hbq2 := box_below hbq hg2 (by omega)
      have hbf2 := box_below hbf hg2 (by omega)
      have hba2 := box_below hba hg2 (by omega)
      have hB2 := hB.trans (hg2.mono hB.size)
      generalize rootN p 3 = r3 at *
      have c3 := wcell_at hba2 HGE.out
      have f3 := boxed_frozen hba2 i
      clear hbr hbq hbf hba hB hg2
      by_cases h8 : i < 8
      · go_wp2_with fail
        have hba3 := wcell_set hba2 i r3
        have hbr3 := box_far (p := ⟨w.heap.size + 1 + 1 + 1, i, none⟩) hbr2 (by simp only; omega) (.int .u64 (r3 : Int))
        have hbq3 := box_far (p := ⟨w.heap.size + 1 + 1 + 1, i, none⟩) hbq2 (by simp only; omega) (.int .u64 (r3 : Int))
        have hbf3 := box_far (p := ⟨w.heap.size + 1 + 1 + 1, i, none⟩) hbf2 (by simp only; omega) (.int .u64 (r3 : Int))
        have hB3 := Below.setCell (p := ⟨w.heap.size + 1 + 1 + 1, i, none⟩) hB2 (by simp only; omega) (.int .u64 (r3 : Int))
        have hs3 : (w2.setCell ⟨w.heap.size + 1 + 1 + 1, i, none⟩ (.int .u64 (r3 : Int))).heap.size = w2.heap.size := by simp
        generalize w2.setCell ⟨w.heap.size + 1 + 1 + 1, i, none⟩ (.int .u64 (r3 : Int)) = w3 at *
        clear hbr2 hbq2 hbf2 hba2 hB2 c3 f3
        refine Calls.mono (root_2 p hp _) ?_
        rintro e w4 ⟨rfl, hg4⟩
        have hs4 := hg4.size
        have hs34 : w2.heap.size ≤ w3.heap.size := Nat.le_of_eq hs3.symm
        have hbr4 := box_below hbr3 hg4 (by omega)
        have hbq4 := box_below hbq3 hg4 (by omega)
        have hbf4 := box_below hbf3 hg4 (by omega)
        have hba4 := box_below hba3 hg4 (by omega)
        have hB4 := hB3.trans (hg4.mono hB3.size)
        generalize rootN p 2 = r2 at *
        have hm8 : min i 8 = i := by omega
        rw [hm8] at hbf4
        have HFL : Hid ((rootsL 2 i).length = i) := rootsL_len hi
        have c4 := wcell_at hbf4 (i := i) (by rw [padL_len (by rw [HFL.out]; omega)]; exact h8)
        have f4 := boxed_frozen hbf4 i
        clear hbr3 hbq3 hbf3 hba3 hB3 hg4 hm8 hs3
        go_wp2
        go_roundw
        case rel =>
          refine ⟨i + 1, by omega, by go_num, box_far hbr4 (by simp only; omega) _, box_far hbq4 (by simp only; omega) _, ?_, ?_, hB4.setCell (by simp only; omega) _, by simp; omega⟩
          · rw [show min (i + 1) 8 = i + 1 by omega, HR2.out h8, ← padL_set (by rw [HFL.out]; omega), HFL.out]
            exact wcell_set hbf4 i r2
          · rw [HR3.out, ← padL_set (by rw [HRL.out]; omega), HRL.out]
            exact box_far hba4 (by simp only; omega) _
        case measure => simp [intOf] <;> omega
      · go_wp2
        go_roundw
        case rel =>
          refine ⟨i + 1, by omega, by go_num, box_far hbr2 (by simp only; omega) _, box_far hbq2 (by simp only; omega) _, ?_, ?_, hB2.setCell (by simp only; omega) _, by simp; omega⟩
          · rw [show min (i + 1) 8 = min i 8 by omega]
            exact box_far hbf2 (by simp only; omega) _
          · rw [HR3.out, ← padL_set (by rw [HRL.out]; omega), HRL.out]
            exact wcell_set hba2 i r3
        case measure => simp [intOf] <;> omega
    · obtain rfl : i = 80 := by omega
      have e1 : padL 8 (rootsL 2 (min 80 8)) = rootsL 2 8 := by unfold padL; rw [show min 80 8 = 8 from rfl, rootsL_len (by omega)]; simp
      have e2 : padL 80 (rootsL 3 80) = rootsL 3 80 := by unfold padL; rw [rootsL_len (by omega)]; simp
      rw [e1] at hbf
      rw [e2] at hba
      clear e1 e2
      have hsz := hs
      clear z80 z8
      go_wp2
      refine wp_region_any (by kernel_rfl) ?_
      change wpAny _ _ _ _ _ _ _ (World.drew _)
      refine wpAny_all (rs := [0, 1]) (by kernel_rfl) (by decide) ?_
      intro i hi
      simp only [List.mem_cons, List.not_mem_nil, or_false] at hi
      rcases hi with rfl | rfl
      · refine wpOp_plain rfl rfl (wp_loadW 68 _ rfl _ rfl (rootsL 2 8) (rootsL_len (by omega)) hbf Try.underlying68 (by kernel_rfl) ?_)
        refine wpAny_all (rs := [1, 2]) (by kernel_rfl) (by decide) ?_
        intro i hi
        simp only [List.mem_cons, List.not_mem_nil, or_false] at hi
        rcases hi with rfl | rfl
        · refine wpOp_plain rfl rfl (wp_loadW 70 _ rfl _ rfl (rootsL 3 80) (rootsL_len (by omega)) hba Try.underlying70 (by kernel_rfl) ?_)
          refine wpAny_all (rs := [2]) (by kernel_rfl) (by decide) ?_
          intro i hi
          obtain rfl : i = 2 := by simpa using hi
          refine wpOp_plain rfl rfl (wp_storeW 68 _ _ rfl _ (rootsL 2 8) rfl rfl (rootsL_len (by omega)) hbr (by rw [wcells_size, zeros_len]) (by kernel_rfl) ?_)
          intro w5 hk5 hg5 hs5
          have hq5 := box_grown (w := wr.drew) hbq hg5 (by simp)
          have hB5 := hB.drew.grown hg5 (by simp; omega) (fun k e => by injection e; omega)
          refine wpAny_all (rs := [3]) (by kernel_rfl) (by decide) ?_
          intro i hi
          obtain rfl : i = 3 := by simpa using hi
          refine wpOp_plain rfl rfl (wp_storeW 70 _ _ rfl _ (rootsL 3 80) rfl rfl (rootsL_len (by omega)) hq5 (by rw [wcells_size, zeros_len]) (by kernel_rfl) ?_)
          intro w6 hk6 hg6 hs6
          have hz1 := box_grown hk5 hg6 (by simp)
          have hz2 := hk6
          have hz3 := hB5.grown hg6 (by simp at hs5; omega) (fun k e => by injection e; omega)
          refine wpAny_done (by kernel_rfl) ?_ _
          go_wp2
          refine bodyPost_ret (results_cell2 rfl _ _ w.heap.size (w.heap.size + 1) _ _ (wcells (rootsL 2 8)) (wcells (rootsL 3 80)) (0, 0) (0, 0) _ _ rfl hz1 rfl hz2 Try.underlying68 rfl (by rw [wcells_size, rootsL_len (by omega)]; kernel_rfl) Try.underlying70 rfl (by rw [wcells_size, rootsL_len (by omega)]; kernel_rfl)) rfl ?_
          exact ⟨rfl, hz3⟩
        · refine wpOp_plain rfl rfl (wp_storeW 68 _ _ rfl _ (rootsL 2 8) rfl rfl (rootsL_len (by omega)) hbr (by rw [wcells_size, zeros_len]) (by kernel_rfl) ?_)
          intro w5 hk5 hg5 hs5
          have hq5 := box_grown (w := wr.drew) hbq hg5 (by simp)
          have ha5 := box_grown (w := wr.drew) hba hg5 (by simp; omega)
          have hB5 := hB.drew.grown hg5 (by simp; omega) (fun k e => by injection e; omega)
          refine wpAny_all (rs := [1]) (by kernel_rfl) (by decide) ?_
          intro i hi
          obtain rfl : i = 1 := by simpa using hi
          refine wpOp_plain rfl rfl (wp_loadW 70 _ rfl _ rfl (rootsL 3 80) (rootsL_len (by omega)) ha5 Try.underlying70 (by kernel_rfl) ?_)
          refine wpAny_all (rs := [3]) (by kernel_rfl) (by decide) ?_
          intro i hi
          obtain rfl : i = 3 := by simpa using hi
          refine wpOp_plain rfl rfl (wp_storeW 70 _ _ rfl _ (rootsL 3 80) rfl rfl (rootsL_len (by omega)) hq5 (by rw [wcells_size, zeros_len]) (by kernel_rfl) ?_)
          intro w6 hk6 hg6 hs6
          have hz1 := box_grown hk5 hg6 (by simp)
          have hz2 := hk6
          have hz3 := hB5.grown hg6 (by simp at hs5; omega) (fun k e => by injection e; omega)
          refine wpAny_done (by kernel_rfl) ?_ _
          go_wp2
          refine bodyPost_ret (results_cell2 rfl _ _ w.heap.size (w.heap.size + 1) _ _ (wcells (rootsL 2 8)) (wcells (rootsL 3 80)) (0, 0) (0, 0) _ _ rfl hz1 rfl hz2 Try.underlying68 rfl (by rw [wcells_size, rootsL_len (by omega)]; kernel_rfl) Try.underlying70 rfl (by rw [wcells_size, rootsL_len (by omega)]; kernel_rfl)) rfl ?_
          exact ⟨rfl, hz3⟩
      · refine wpOp_plain rfl rfl (wp_loadW 70 _ rfl _ rfl (rootsL 3 80) (rootsL_len (by omega)) hba Try.underlying70 (by kernel_rfl) ?_)
        refine wpAny_all (rs := [0]) (by kernel_rfl) (by decide) ?_
        intro i hi
        obtain rfl : i = 0 := by simpa using hi
        refine wpOp_plain rfl rfl (wp_loadW 68 _ rfl _ rfl (rootsL 2 8) (rootsL_len (by omega)) hbf Try.underlying68 (by kernel_rfl) ?_)
        refine wpAny_all (rs := [2]) (by kernel_rfl) (by decide) ?_
        intro i hi
        obtain rfl : i = 2 := by simpa using hi
        refine wpOp_plain rfl rfl (wp_storeW 68 _ _ rfl _ (rootsL 2 8) rfl rfl (rootsL_len (by omega)) hbr (by rw [wcells_size, zeros_len]) (by kernel_rfl) ?_)
        intro w5 hk5 hg5 hs5
        have hq5 := box_grown (w := wr.drew) hbq hg5 (by simp)
        have hB5 := hB.drew.grown hg5 (by simp; omega) (fun k e => by injection e; omega)
        refine wpAny_all (rs := [3]) (by kernel_rfl) (by decide) ?_
        intro i hi
        obtain rfl : i = 3 := by simpa using hi
        refine wpOp_plain rfl rfl (wp_storeW 70 _ _ rfl _ (rootsL 3 80) rfl rfl (rootsL_len (by omega)) hq5 (by rw [wcells_size, zeros_len]) (by kernel_rfl) ?_)
        intro w6 hk6 hg6 hs6
        have hz1 := box_grown hk5 hg6 (by simp)
        have hz2 := hk6
        have hz3 := hB5.grown hg6 (by simp at hs5; omega) (fun k e => by injection e; omega)
        refine wpAny_done (by kernel_rfl) ?_ _
        go_wp2
        refine bodyPost_ret (results_cell2 rfl _ _ w.heap.size (w.heap.size + 1) _ _ (wcells (rootsL 2 8)) (wcells (rootsL 3 80)) (0, 0) (0, 0) _ _ rfl hz1 rfl hz2 Try.underlying68 rfl (by rw [wcells_size, rootsL_len (by omega)]; kernel_rfl) Try.underlying70 rfl (by rw [wcells_size, rootsL_len (by omega)]; kernel_rfl)) rfl ?_
        exact ⟨rfl, hz3⟩
end Go.Proofs.Ytkgkbaicjpgljaa
