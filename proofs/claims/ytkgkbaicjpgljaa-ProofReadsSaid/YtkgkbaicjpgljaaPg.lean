/- The package proof: the reader's line. -/
import Derived.Test.YtkgkbaicjpgljaaPf
import Derived.Deep.DeepMust
import Derived.Deep.RegionLaw
namespace Go.Proofs.Ytkgkbaicjpgljaa
open Go.RowKit
set_option linter.unusedVariables false

/-- A line's cells. -/
abbrev lc (k : UInt8) (d : Int) (c : Bool) (i : Int) (p : List UInt8) (f : Bool) (v : Value) : Array Value := #[.int .u8 (k.toNat : Int), .int .i64 d, .bool c, .int .i64 i, .string ⟨p.toArray⟩, .bool f, v]

theorem Rdr.setFar {w : World} {g B j L : Nat} {st : List UInt8 × Bool} {u : Value} (h : Rdr w g (fun b => b < B) st) (hg : g < L) (hB : B ≤ g) : Rdr (w.setCell ⟨L, j, none⟩ u) g (fun b => b < B) st := by
  obtain ⟨A, n, c, h1, h2⟩ := h
  exact ⟨A, n, c, box_far h1 (by simp only; omega) u, Rep.sl_setFar h2 (fun b (hb : b < B) => by omega)⟩
theorem Rdr.alloc {w : World} {g B : Nat} {st : List UInt8 × Bool} (h : Rdr w g (fun b => b < B) st) (hg : g < w.heap.size) (hB : B ≤ g) (o : Obj) : Rdr (w.alloc o) g (fun b => b < B) st :=
  h.grown (World.grownBy_alloc w o none) (by simp) (fun b (hb : b < B) => ⟨by omega, by simp⟩)

def LinePost (st : List UInt8 × Bool) (g B : Nat) (w : World) (e : Ending) (w' : World) : Prop :=
  ∃ cs : List Value, e = .returned (.agg cs.toArray) ∧ Rep.line.rd w' (fun b => w.heap.size ≤ b ∧ b < w'.heap.size) cs (lineR st).1 ∧ Rdr w' g (fun b => b < B) (lineR st).2 ∧ w.grownBy w' (some g)

set_option maxRecDepth 100000 in
set_option maxHeartbeats 1000000 in
theorem line_c (st : List UInt8 × Bool) (g B : Nat) (w : World) (h : Rdr w g (fun b => b < B) st) (hB : B ≤ g) (hgl : g < w.heap.size) :
    Calls Try.prog 30 #[.pointer (some ⟨g, 0, none⟩)] w (LinePost st g B w) := by
  go_enter Try.func30, Try.ntmps30
  go_wp2_with fail
  refine Calls.mono (one_c st g B _ (h.alloc hgl hB _) hB) ?_
  rintro e w1 ⟨rfl, hr1, hg1⟩
  have l1 := oneR_lt st
  have hR1 := box_grown (box_new w _ _) hg1 (by simp; omega)
  have hs1 := hg1.size
  simp only [World.size_alloc] at hs1
  have hG1 := grownBy_trans (World.grownBy_alloc w _ _) hg1
  generalize hR : w.heap.size = R at *
  generalize hx : (oneR st).1 = x at *
  have HX := Lib.hid hx
  have EX := Lib.hid (ub_val (k := (x : Int)) (by omega) (by omega))
  clear hx hg1
  by_cases hx1 : x = 1
  · subst hx1
    go_wp2_with fail
    refine Calls.mono (two_c _ g B _ (hr1.alloc (by omega) hB _) hB) ?_
    rintro e w2 ⟨rfl, hr2, hg2⟩
    have hL2 : w2.heap[w1.heap.size]? = some (.cells (lc 1 0 false 0 [] false (.slice none 0 0)) 42 (0, 0)) := box_grown (box_new w1 _ _) hg2 (by simp; omega)
    have hR2 := box_grown (box_alloc hR1 _) hg2 (by simp; omega)
    have hG2 := grownBy_trans (grownBy_alloc hG1 _) hg2
    have hs2 := hg2.size
    simp only [World.size_alloc] at hs2
    have ld := twoR_lt (oneR st).2
    generalize hL : w1.heap.size = L at *
    generalize hd : (twoR (oneR st).2).1 = d at *
    have HD := Lib.hid hd
    clear hd hg2 hR1 hr1 hG1 hL
    have hc := boxed hL2
    have hc0 := hc 0 _ rfl; have hc1 := hc 1 _ rfl; have hc2 := hc 2 _ rfl; have hc3 := hc 3 _ rfl; have hc4 := hc 4 _ rfl; have hc5 := hc 5 _ rfl; have hc6 := hc 6 _ rfl
    have hf1 := boxed_frozen hL2 1
    clear hc
    go_wp2_with fail
    refine Calls.mono (one_c _ g B _ (hr2.setFar (by omega) hB) hB) ?_
    rintro e w3 ⟨rfl, hr3, hg3⟩
    have hL3 : w3.heap[L]? = some (.cells (lc 1 d false 0 [] false (.slice none 0 0)) 42 (0, 0)) := box_grown (box_set hL2 _) hg3 (by simp; omega)
    have hR3 := box_grown (box_far (p := ⟨L, 1, none⟩) hR2 (by simp only; omega) _) hg3 (by simp; omega)
    have hG3 := grownBy_trans (grownBy_new hG2 (p := ⟨L, 1, none⟩) (by simp only; omega) _) hg3
    have hs3 := hg3.size
    simp only [World.size_setCell] at hs3
    have ln := oneR_lt (twoR (oneR st).2).2
    clear hg3 hL2 hR2 hG2 hr2
    clear hc0 hc1 hc2 hc3 hc4 hc5 hc6
    clear hf1
    have HLR : Hid (lineR st = (⟨1, d, false, 0, [], false, (refsR (oneR (twoR (oneR st).2).2).1 (oneR (twoR (oneR st).2).2).2 []).1⟩, (refsR (oneR (twoR (oneR st).2).2).1 (oneR (twoR (oneR st).2).2).2 []).2)) := by
      show _ = _
      unfold lineR
      simp only [HX.out, if_true, HD.out]
    generalize hn0 : (oneR (twoR (oneR st).2).2).1 = n0 at *
    generalize hst0 : (oneR (twoR (oneR st).2).2).2 = st0 at *
    have HN0 := Lib.hid hn0
    have HST0 := Lib.hid hst0
    clear hn0 hst0
    go_wp2
    go_loopw [4] (fun i wq => ∃ (j : Nat) (sq : List UInt8 × Bool) (acc : List Int) (v : Value), i = .int .i64 j ∧ Hid (refsR n0 st0 [] = refsR j sq acc) ∧ wq.heap[L]? = some (.cells (lc 1 d false 0 [] false v) 42 (0, 0)) ∧ Rep.i64.own 3 wq w3.heap.size (fun _ => False) v acc ∧
      Rdr wq g (fun b => b < B) sq ∧ (∃ cR : List Value, cR.length = 7 ∧ wq.heap[R]? = some (.cells cR.toArray 42 (0, 0))) ∧ w.grownBy wq (some g) ∧ w3.heap.size ≤ wq.heap.size ∧ acc.length + j ≤ 256) (fun i _ => (intOf i).toNat)
    case atStart => exact ⟨n0, st0, [], _, rfl, rfl, hL3, Rep.own_nil, hr3, ⟨_, rfl, hR3⟩, hG3, Nat.le_refl _, by simp; omega⟩
    case round =>
      obtain ⟨j, sq, acc, v, rfl, HJ, hL4, ho4, hr4, ⟨cR, hcR, hR4⟩, hG4, hs4, hacc⟩ := hrel
      obtain ⟨A4, n4, c4, hbx4, hsl4⟩ := hr4
      have hcg := boxed hbx4
      have hg1 := hcg 1 _ rfl
      have hr4 : Rdr wr g (fun b => b < B) sq := ⟨A4, n4, c4, hbx4, hsl4⟩
      clear hcg hbx4 hsl4
      have hc := boxed hL4
      have hc0 := hc 0 _ rfl; have hc1 := hc 1 _ rfl; have hc2 := hc 2 _ rfl; have hc3 := hc 3 _ rfl; have hc4 := hc 4 _ rfl; have hc5 := hc 5 _ rfl; have hc6 := hc 6 _ rfl
      have hf6 := boxed_frozen hL4 6
      clear hc
      obtain ⟨bs4, sh4⟩ := sq
      simp only at hg1
      by_cases hj : 0 < j
      · cases sh4 with
        | false =>
          have lt4 := twoR_lt (bs4, false)
          have HJ2 : Hid (refsR n0 st0 [] = refsR (j - 1) (twoR (bs4, false)).2 (acc ++ [((twoR (bs4, false)).1 : Int)])) := by
            show _ = _
            rw [HJ.out]
            obtain ⟨j', rfl⟩ : ∃ j', j = j' + 1 := ⟨j - 1, by omega⟩
            rfl
          generalize hy : (twoR (bs4, false)).1 = y at *
          have HY := Lib.hid hy
          clear hy
          go_wp2_with fail
          go_region_law (first | ((refine step_app1 (by rfl) TI _ _ (by rfl) (by rfl) (Rep.own_later ho5 (by first | (with_reducible rfl) | omega | (simp; done) | (simp; omega) | (intro b hb; (try dsimp only at hb); simp; omega) | (intro b hb; (try dsimp only at hb); simp [Value.ownBlock]; omega) | (intro b hb; exact hb.elim) | (go_grown; done))) [_] (y : Int) (by rfl) (cell_one_new _ _ _) (show Rep.i64.rd _ _ _ _ from ⟨rfl, by omega, by omega⟩) (by first | (with_reducible rfl) | omega | (simp; done) | (simp; omega) | (intro b hb; (try dsimp only at hb); simp; omega) | (intro b hb; (try dsimp only at hb); simp [Value.ownBlock]; omega) | (intro b hb; exact hb.elim) | (go_grown; done)) (by first | (with_reducible rfl) | omega | (simp; done) | (simp; omega) | (intro b hb; (try dsimp only at hb); simp; omega) | (intro b hb; (try dsimp only at hb); simp [Value.ownBlock]; omega) | (intro b hb; exact hb.elim) | (go_grown; done)) (by first | (with_reducible rfl) | omega | (simp; done) | (simp; omega) | (intro b hb; (try dsimp only at hb); simp; omega) | (intro b hb; (try dsimp only at hb); simp [Value.ownBlock]; omega) | (intro b hb; exact hb.elim) | (go_grown; done)) (fun _ (h : False) => h.elim) ?_; intro v6 w6 ho6 hg6; have hL6 := box_app (box_alloc hL5 _) (Rep.own_later ho5 (by first | (with_reducible rfl) | omega | (simp; done) | (simp; omega) | (intro b hb; (try dsimp only at hb); simp; omega) | (intro b hb; (try dsimp only at hb); simp [Value.ownBlock]; omega) | (intro b hb; exact hb.elim) | (go_grown; done))) (by decide) hg6; obtain ⟨A6, c6, hv6, hsl6⟩ := Rep.own_sl ho6; subst hv6; have hcL := boxed hL6 6 _ rfl; have hfL := boxed_frozen hL6 6)) | (go_simp; go_at_call 44; refine Calls.mono (two_c (bs4, false) g B _ hr4 hB) ?_; rintro e w5 ⟨he, hr5, hg5⟩; rw [HY.out] at he; subst he; have hL5 := box_grown (w := wr.drew) hL4 hg5 (by simp; omega); have hc6' := boxed hL5 6 _ rfl; have hc6'' := (fun o => boxed (box_alloc hL5 o) 6 _ rfl); have hs5 := hg5.size; have ho5 := Rep.own_kept (w := wr.drew) (row := some g) ho4 hg5 (.inr (fun e => by have := (Rep.own_lt ho4 _ e).1; omega)) (fun _ (h : False) => h.elim); have hbs5 : w3.heap.size ≤ w5.heap.size := Nat.le_trans hs4 hs5))
          all_goals
            have hL7 : (w6.setCell ⟨L, 6, none⟩ (.slice A6 (acc.length + 1) c6)).heap[L]? = some (.cells (lc 1 d false 0 [] false (.slice A6 (acc.length + 1) c6)) 42 (0, 0)) := box_set hL6 _
            have hnv := Rep.own_lt ho5
            have hr6 := (hr5.alloc (by omega) hB (.cells #[.int .i64 (y : Int)] 3)).grown hg6 (fun e => by have := (hnv _ e.symm).1; omega) (fun b (hb : b < B) => ⟨by simp; omega, fun e => by have := (hnv _ e.symm).1; omega⟩)
            have hr7 := hr6.setFar (L := L) (j := 6) (u := .slice A6 (acc.length + 1) c6) (by omega) hB
            have ho7 := Rep.own_setFar (p := ⟨L, 6, none⟩) (u := .slice A6 (acc.length + 1) c6) ho6 (own_blk ho6 hL6 (by decide))
            have hR5 := box_grown (w := wr.drew) hR4 hg5 (by simp; omega)
            have hR6 := box_app (box_alloc hR5 _) (Rep.own_later ho5 (by first | (with_reducible rfl) | omega | (simp; done) | (simp; omega) | (intro b hb; (try dsimp only at hb); simp; omega) | (intro b hb; (try dsimp only at hb); simp [Value.ownBlock]; omega) | (intro b hb; exact hb.elim) | (go_grown; done))) (by decide) hg6
            have hR7 := box_far (p := ⟨L, 6, none⟩) hR6 (by simp only; omega) (.slice A6 (acc.length + 1) c6)
            have hG6 := grownBy_own (grownBy_alloc (grownBy_trans (grownBy_drew hG4) hg5) _) hg6 (fun k e => by have := (hnv k e).1; omega)
            have hG7 := grownBy_new (p := ⟨L, 6, none⟩) hG6 (by simp only; omega) (.slice A6 (acc.length + 1) c6)
            have hs6 := hg6.size
            simp only [World.size_alloc] at hs6
            clear hc0 hc1 hc2 hc3 hc4 hc5 hc6 hf6 hc6' hc6'' hcL hfL hg5 hg6 hsl6 hr6 hr5 ho5 ho6 hR5 hR6 hL5 hL6 hG6 hG4 hr4 ho4 hL4 hR4 hg1
            go_wp2
            go_roundw
            case rel => exact ⟨j - 1, _, _, _, by go_num, HJ2, hL7, by first | exact ho7 | simpa using ho7, hr7, ⟨cR, hcR, hR7⟩, hG7, by simp only [World.size_setCell]; omega, by rw [List.length_append, List.length_singleton]; omega⟩
            case measure => simp [intOf]; omega
        | true =>
          have HJ3 : Hid (refsR n0 st0 [] = (acc, (bs4, true))) := by
            show _ = _
            rw [HJ.out]
            obtain ⟨j', rfl⟩ : ∃ j', j = j' + 1 := ⟨j - 1, by omega⟩
            rfl
          obtain ⟨A7, c7, hv7, hsl7⟩ := Rep.own_sl ho4
          subst hv7
          have hcR' := boxed hR4
          match cR, hcR with
          | [r0, r1, r2, r3, r4, r5, r6], _ =>
            have hd0 := hcR' 0 _ rfl; have hd1 := hcR' 1 _ rfl; have hd2 := hcR' 2 _ rfl; have hd3 := hcR' 3 _ rfl; have hd4 := hcR' 4 _ rfl; have hd5 := hcR' 5 _ rfl; have hd6 := hcR' 6 _ rfl
            have he0 := boxed_frozen hR4 0; have he1 := boxed_frozen hR4 1; have he2 := boxed_frozen hR4 2; have he3 := boxed_frozen hR4 3; have he4 := boxed_frozen hR4 4; have he5 := boxed_frozen hR4 5; have he6 := boxed_frozen hR4 6
            clear hcR'
            go_wp2
            refine bodyPost_ret (v := .agg (lc 1 d false 0 [] false (.slice A7 acc.length c7))) (by simp [results, Try.results30, go_sem, hd0, hd1, hd2, hd3, hd4, hd5, hd6]) rfl ?_
            refine ⟨_, rfl, ?_, ?_, ?_⟩
            · rw [HLR.out, HJ3.out]
              refine ⟨_, rfl, ⟨A7, _, c7, rfl, Rep.sl_more (Rep.sl_grown (row := some R) hsl7 (by repeat (first | with_reducible exact World.grownBy.refl _ _ | with_reducible refine grownBy_set ?_ _)) (own_in ho4 (by omega))) (own_in3 ho4 (by simp only [World.size_setCell]; exact Nat.le_refl _) (by omega))⟩, by dsimp only; omega, by dsimp only; omega, by dsimp only; first | omega | simp⟩
            · rw [HLR.out, HJ3.out]
              exact Rdr.grown (row := some R) hr4 (by repeat (first | with_reducible exact World.grownBy.refl _ _ | with_reducible refine grownBy_set ?_ _)) (by simp; omega) (fun b (hb : b < B) => ⟨by omega, by simp; omega⟩)
            · exact grownBy_own (row' := some R) hG4 (by repeat (first | with_reducible exact World.grownBy.refl _ _ | with_reducible refine grownBy_set ?_ _)) (fun k e => by injection e; omega)
      · have HJ3 : Hid (refsR n0 st0 [] = (acc, (bs4, sh4))) := by
          show _ = _
          rw [HJ.out]
          obtain rfl : j = 0 := by omega
          rfl
        obtain ⟨A7, c7, hv7, hsl7⟩ := Rep.own_sl ho4
        subst hv7
        have hcR' := boxed hR4
        match cR, hcR with
        | [r0, r1, r2, r3, r4, r5, r6], _ =>
          have hd0 := hcR' 0 _ rfl; have hd1 := hcR' 1 _ rfl; have hd2 := hcR' 2 _ rfl; have hd3 := hcR' 3 _ rfl; have hd4 := hcR' 4 _ rfl; have hd5 := hcR' 5 _ rfl; have hd6 := hcR' 6 _ rfl
          have he0 := boxed_frozen hR4 0; have he1 := boxed_frozen hR4 1; have he2 := boxed_frozen hR4 2; have he3 := boxed_frozen hR4 3; have he4 := boxed_frozen hR4 4; have he5 := boxed_frozen hR4 5; have he6 := boxed_frozen hR4 6
          clear hcR'
          go_wp2
          refine bodyPost_ret (v := .agg (lc 1 d false 0 [] false (.slice A7 acc.length c7))) (by simp [results, Try.results30, go_sem, hd0, hd1, hd2, hd3, hd4, hd5, hd6]) rfl ?_
          refine ⟨_, rfl, ?_, ?_, ?_⟩
          · rw [HLR.out, HJ3.out]
            refine ⟨_, rfl, ⟨A7, _, c7, rfl, Rep.sl_more (Rep.sl_grown (row := some R) hsl7 (by repeat (first | with_reducible exact World.grownBy.refl _ _ | with_reducible refine grownBy_set ?_ _)) (own_in ho4 (by omega))) (own_in3 ho4 (by simp only [World.size_setCell]; exact Nat.le_refl _) (by omega))⟩, by dsimp only; omega, by dsimp only; omega, by dsimp only; first | omega | simp⟩
          · rw [HLR.out, HJ3.out]
            exact Rdr.grown (row := some R) hr4 (by repeat (first | with_reducible exact World.grownBy.refl _ _ | with_reducible refine grownBy_set ?_ _)) (by simp; omega) (fun b (hb : b < B) => ⟨by omega, by simp; omega⟩)
          · exact grownBy_own (row' := some R) hG4 (by repeat (first | with_reducible exact World.grownBy.refl _ _ | with_reducible refine grownBy_set ?_ _)) (fun k e => by injection e; omega)
  · have h1 : ((x : Int) == 1) = false := by simp only [beq_eq_false_iff_ne, ne_eq]; omega
    go_wp2_with fail
    refine Calls.mono (one_c _ g B _ (hr1.alloc (by omega) hB _) hB) ?_
    rintro e w2 ⟨rfl, hr2, hg2⟩
    have hL2 : w2.heap[w1.heap.size]? = some (.cells (lc (ub x) 0 false 0 [] false (.slice none 0 0)) 42 (0, 0)) := by
      have := box_grown (box_new w1 #[.int .u8 (x : Int), .int .i64 0, .bool false, .int .i64 0, .string ⟨#[]⟩, .bool false, .slice none 0 0] 42) hg2 (by simp; omega)
      rw [this, lc, EX.out]
    have hR2 := box_grown (box_alloc hR1 _) hg2 (by simp; omega)
    have hG2 := grownBy_trans (grownBy_alloc hG1 _) hg2
    have hs2 := hg2.size
    simp only [World.size_alloc] at hs2
    have lct := oneR_lt (oneR st).2
    generalize hL : w1.heap.size = L at *
    generalize hct : (oneR (oneR st).2).1 = ct at *
    generalize hst2 : (oneR (oneR st).2).2 = st2 at *
    have HCT := Lib.hid hct
    have HST2 := Lib.hid hst2
    clear hct hg2 hR1 hr1 hG1 hL hst2
    have hc := boxed hL2
    have hc0 := hc 0 _ rfl; have hc1 := hc 1 _ rfl; have hc2 := hc 2 _ rfl; have hc3 := hc 3 _ rfl; have hc4 := hc 4 _ rfl; have hc5 := hc 5 _ rfl; have hc6 := hc 6 _ rfl
    have hf2 := boxed_frozen hL2 2
    clear hc
    go_wp2_with fail
    refine Calls.mono (two_c _ g B _ (hr2.setFar (by omega) hB) hB) ?_
    rintro e w3 ⟨rfl, hr3, hg3⟩
    have hL3 : w3.heap[L]? = some (.cells (lc (ub x) 0 (decide (0 < ct)) 0 [] false (.slice none 0 0)) 42 (0, 0)) := box_grown (box_set hL2 _) hg3 (by simp; omega)
    have hR3 := box_grown (box_far (p := ⟨L, 2, none⟩) hR2 (by simp only; omega) _) hg3 (by simp; omega)
    have hG3 := grownBy_trans (grownBy_new hG2 (p := ⟨L, 2, none⟩) (by simp only; omega) _) hg3
    have hs3 := hg3.size
    simp only [World.size_setCell] at hs3
    clear hg3 hL2 hR2 hG2 hr2 hf2
    clear hc0 hc1 hc2 hc3 hc4 hc5 hc6
    have lix := twoR_lt st2
    generalize hix : (twoR st2).1 = ix at *
    generalize hst3 : (twoR st2).2 = st3 at *
    have HIX := Lib.hid hix
    have HST3 := Lib.hid hst3
    clear hix hst3
    have hc := boxed hL3
    have hc0 := hc 0 _ rfl; have hc1 := hc 1 _ rfl; have hc2 := hc 2 _ rfl; have hc3 := hc 3 _ rfl; have hc4 := hc 4 _ rfl; have hc5 := hc 5 _ rfl; have hc6 := hc 6 _ rfl
    have hf3 := boxed_frozen hL3 3
    clear hc
    go_wp2_with fail
    refine Calls.mono (one_c _ g B _ (hr3.setFar (by omega) hB) hB) ?_
    rintro e w4 ⟨rfl, hr4, hg4⟩
    have hL4 : w4.heap[L]? = some (.cells (lc (ub x) 0 (decide (0 < ct)) ix [] false (.slice none 0 0)) 42 (0, 0)) := box_grown (box_set hL3 _) hg4 (by simp; omega)
    have hR4 := box_grown (box_far (p := ⟨L, 3, none⟩) hR3 (by simp only; omega) _) hg4 (by simp; omega)
    have hG4 := grownBy_trans (grownBy_new hG3 (p := ⟨L, 3, none⟩) (by simp only; omega) _) hg4
    have hs4 := hg4.size
    simp only [World.size_setCell] at hs4
    clear hg4 hL3 hR3 hG3 hr3 hf3
    clear hc0 hc1 hc2 hc3 hc4 hc5 hc6
    have lpl := oneR_lt st3
    generalize hpl : (oneR st3).1 = pl at *
    generalize hst4 : (oneR st3).2 = st4 at *
    have HPL := Lib.hid hpl
    have HST4 := Lib.hid hst4
    clear hpl hst4
    go_wp2_with fail
    refine Calls.mono (take_k st4 g B _ _ hr4 hB (by omega) (by omega)) ?_
    rintro e w5 ⟨A5, n5, c5, rfl, hsl5, hr5, hg5⟩
    have hL5 := box_grown hL4 hg5 (by simp; omega)
    have hR5 := box_grown hR4 hg5 (by simp; omega)
    have hG5 := grownBy_trans hG4 hg5
    have hs5 := hg5.size
    clear hg5 hL4 hR4 hG4 hr4
    rw [Int.toNat_natCast] at hsl5 hr5
    have lpp := takeR_len st4 pl
    generalize hpp : (takeR st4 pl).1 = pp at *
    generalize hst5 : (takeR st4 pl).2 = st5 at *
    have HPP := Lib.hid hpp
    have HST5 := Lib.hid hst5
    have HN5 := Lib.hid hsl5.1
    clear hpp hst5
    have hcv := conv_bs Try.underlying25 Try.underlying5 Try.underlying9 hsl5
    have hc := boxed hL5
    have hc0 := hc 0 _ rfl; have hc1 := hc 1 _ rfl; have hc2 := hc 2 _ rfl; have hc3 := hc 3 _ rfl; have hc4 := hc 4 _ rfl; have hc5 := hc 5 _ rfl; have hc6 := hc 6 _ rfl
    have hf4 := boxed_frozen hL5 4
    clear hc hsl5
    go_wp2_with fail
    refine Calls.mono (one_c _ g B _ (hr5.setFar (by omega) hB) hB) ?_
    rintro e w6 ⟨rfl, hr6, hg6⟩
    have hL6 : w6.heap[L]? = some (.cells (lc (ub x) 0 (decide (0 < ct)) ix pp false (.slice none 0 0)) 42 (0, 0)) := box_grown (box_set hL5 _) hg6 (by simp; omega)
    have hR6 := box_grown (box_far (p := ⟨L, 4, none⟩) hR5 (by simp only; omega) _) hg6 (by simp; omega)
    have hG6 := grownBy_trans (grownBy_new hG5 (p := ⟨L, 4, none⟩) (by simp only; omega) _) hg6
    have hs6 := hg6.size
    simp only [World.size_setCell] at hs6
    clear hg6 hL5 hR5 hG5 hr5 hf4
    clear hc0 hc1 hc2 hc3 hc4 hc5 hc6
    clear hcv
    have lfl := oneR_lt st5
    generalize hfl : (oneR st5).1 = fl at *
    generalize hst6 : (oneR st5).2 = st6 at *
    have HFL := Lib.hid hfl
    have HST6 := Lib.hid hst6
    clear hfl hst6
    have hc := boxed hL6
    have hc0 := hc 0 _ rfl; have hc1 := hc 1 _ rfl; have hc2 := hc 2 _ rfl; have hc3 := hc 3 _ rfl; have hc4 := hc 4 _ rfl; have hc5 := hc 5 _ rfl; have hc6 := hc 6 _ rfl
    have hf5 := boxed_frozen hL6 5
    clear hc
    go_wp2_with fail
    refine Calls.mono (one_c _ g B _ (hr6.setFar (by omega) hB) hB) ?_
    rintro e w7 ⟨rfl, hr7, hg7⟩
    have hL7 : w7.heap[L]? = some (.cells (lc (ub x) 0 (decide (0 < ct)) ix pp (decide (0 < fl)) (.slice none 0 0)) 42 (0, 0)) := box_grown (box_set hL6 _) hg7 (by simp; omega)
    have hR7 := box_grown (box_far (p := ⟨L, 5, none⟩) hR6 (by simp only; omega) _) hg7 (by simp; omega)
    have hG7 := grownBy_trans (grownBy_new hG6 (p := ⟨L, 5, none⟩) (by simp only; omega) _) hg7
    have hs7 := hg7.size
    simp only [World.size_setCell] at hs7
    clear hg7 hL6 hR6 hG6 hr6 hf5
    clear hc0 hc1 hc2 hc3 hc4 hc5 hc6
    have ln := oneR_lt st6
    have HLR : Hid (lineR st = (⟨ub x, 0, decide (0 < ct), ix, pp, decide (0 < fl), (refsR (oneR st6).1 (oneR st6).2 []).1⟩, (refsR (oneR st6).1 (oneR st6).2 []).2)) := by
      show _ = _
      unfold lineR
      simp only [HX.out, if_neg hx1, HCT.out, HST2.out, HIX.out, HST3.out, HPL.out, HST4.out, HPP.out, HST5.out, HFL.out, HST6.out]
    generalize hn0 : (oneR st6).1 = n0 at *
    generalize hst0 : (oneR st6).2 = st0 at *
    have HN0 := Lib.hid hn0
    have HST0 := Lib.hid hst0
    clear hn0 hst0 hx1
    have hs17 : L + 1 ≤ w7.heap.size := by omega
    clear hs2 hs3 hs4 hs5 hs6 hs7
    have hL3 := hL7
    have hr3 := hr7
    have hR3 := hR7
    have hG3 := hG7
    clear hL7 hr7 hR7 hG7
    go_wp2
    go_loopw [4] (fun i wq => ∃ (j : Nat) (sq : List UInt8 × Bool) (acc : List Int) (v : Value), i = .int .i64 j ∧ Hid (refsR n0 st0 [] = refsR j sq acc) ∧ wq.heap[L]? = some (.cells (lc (ub x) 0 (decide (0 < ct)) ix pp (decide (0 < fl)) v) 42 (0, 0)) ∧ Rep.i64.own 3 wq w7.heap.size (fun _ => False) v acc ∧
      Rdr wq g (fun b => b < B) sq ∧ (∃ cR : List Value, cR.length = 7 ∧ wq.heap[R]? = some (.cells cR.toArray 42 (0, 0))) ∧ w.grownBy wq (some g) ∧ w7.heap.size ≤ wq.heap.size ∧ acc.length + j ≤ 256) (fun i _ => (intOf i).toNat)
    case atStart => exact ⟨n0, st0, [], _, rfl, rfl, hL3, Rep.own_nil, hr3, ⟨_, rfl, hR3⟩, hG3, Nat.le_refl _, by simp; omega⟩
    case round =>
      obtain ⟨j, sq, acc, v, rfl, HJ, hL4, ho4, hr4, ⟨cR, hcR, hR4⟩, hG4, hs4, hacc⟩ := hrel
      obtain ⟨A4, n4, c4, hbx4, hsl4⟩ := hr4
      have hcg := boxed hbx4
      have hg1 := hcg 1 _ rfl
      have hr4 : Rdr wr g (fun b => b < B) sq := ⟨A4, n4, c4, hbx4, hsl4⟩
      clear hcg hbx4 hsl4
      have hc := boxed hL4
      have hc0 := hc 0 _ rfl; have hc1 := hc 1 _ rfl; have hc2 := hc 2 _ rfl; have hc3 := hc 3 _ rfl; have hc4 := hc 4 _ rfl; have hc5 := hc 5 _ rfl; have hc6 := hc 6 _ rfl
      have hf6 := boxed_frozen hL4 6
      clear hc
      obtain ⟨bs4, sh4⟩ := sq
      simp only at hg1
      by_cases hj : 0 < j
      · cases sh4 with
        | false =>
          have lt4 := twoR_lt (bs4, false)
          have HJ2 : Hid (refsR n0 st0 [] = refsR (j - 1) (twoR (bs4, false)).2 (acc ++ [((twoR (bs4, false)).1 : Int)])) := by
            show _ = _
            rw [HJ.out]
            obtain ⟨j', rfl⟩ : ∃ j', j = j' + 1 := ⟨j - 1, by omega⟩
            rfl
          generalize hy : (twoR (bs4, false)).1 = y at *
          have HY := Lib.hid hy
          clear hy
          go_wp2_with fail
          go_region_law (first | ((refine step_app1 (by rfl) TI _ _ (by rfl) (by rfl) (Rep.own_later ho5 (by first | (with_reducible rfl) | omega | (simp; done) | (simp; omega) | (intro b hb; (try dsimp only at hb); simp; omega) | (intro b hb; (try dsimp only at hb); simp [Value.ownBlock]; omega) | (intro b hb; exact hb.elim) | (go_grown; done))) [_] (y : Int) (by rfl) (cell_one_new _ _ _) (show Rep.i64.rd _ _ _ _ from ⟨rfl, by omega, by omega⟩) (by first | (with_reducible rfl) | omega | (simp; done) | (simp; omega) | (intro b hb; (try dsimp only at hb); simp; omega) | (intro b hb; (try dsimp only at hb); simp [Value.ownBlock]; omega) | (intro b hb; exact hb.elim) | (go_grown; done)) (by first | (with_reducible rfl) | omega | (simp; done) | (simp; omega) | (intro b hb; (try dsimp only at hb); simp; omega) | (intro b hb; (try dsimp only at hb); simp [Value.ownBlock]; omega) | (intro b hb; exact hb.elim) | (go_grown; done)) (by first | (with_reducible rfl) | omega | (simp; done) | (simp; omega) | (intro b hb; (try dsimp only at hb); simp; omega) | (intro b hb; (try dsimp only at hb); simp [Value.ownBlock]; omega) | (intro b hb; exact hb.elim) | (go_grown; done)) (fun _ (h : False) => h.elim) ?_; intro v6 w6 ho6 hg6; have hL6 := box_app (box_alloc hL5 _) (Rep.own_later ho5 (by first | (with_reducible rfl) | omega | (simp; done) | (simp; omega) | (intro b hb; (try dsimp only at hb); simp; omega) | (intro b hb; (try dsimp only at hb); simp [Value.ownBlock]; omega) | (intro b hb; exact hb.elim) | (go_grown; done))) (by decide) hg6; obtain ⟨A6, c6, hv6, hsl6⟩ := Rep.own_sl ho6; subst hv6; have hcL := boxed hL6 6 _ rfl; have hfL := boxed_frozen hL6 6)) | (go_simp; go_at_call 44; refine Calls.mono (two_c (bs4, false) g B _ hr4 hB) ?_; rintro e w5 ⟨he, hr5, hg5⟩; rw [HY.out] at he; subst he; have hL5 := box_grown (w := wr.drew) hL4 hg5 (by simp; omega); have hc6' := boxed hL5 6 _ rfl; have hc6'' := (fun o => boxed (box_alloc hL5 o) 6 _ rfl); have hs5 := hg5.size; have ho5 := Rep.own_kept (w := wr.drew) (row := some g) ho4 hg5 (.inr (fun e => by have := (Rep.own_lt ho4 _ e).1; omega)) (fun _ (h : False) => h.elim); have hbs5 : w7.heap.size ≤ w5.heap.size := Nat.le_trans hs4 hs5))
          all_goals
            have hL7 : (w6.setCell ⟨L, 6, none⟩ (.slice A6 (acc.length + 1) c6)).heap[L]? = some (.cells (lc (ub x) 0 (decide (0 < ct)) ix pp (decide (0 < fl)) (.slice A6 (acc.length + 1) c6)) 42 (0, 0)) := box_set hL6 _
            have hnv := Rep.own_lt ho5
            have hr6 := (hr5.alloc (by omega) hB (.cells #[.int .i64 (y : Int)] 3)).grown hg6 (fun e => by have := (hnv _ e.symm).1; omega) (fun b (hb : b < B) => ⟨by simp; omega, fun e => by have := (hnv _ e.symm).1; omega⟩)
            have hr7 := hr6.setFar (L := L) (j := 6) (u := .slice A6 (acc.length + 1) c6) (by omega) hB
            have ho7 := Rep.own_setFar (p := ⟨L, 6, none⟩) (u := .slice A6 (acc.length + 1) c6) ho6 (own_blk ho6 hL6 (by decide))
            have hR5 := box_grown (w := wr.drew) hR4 hg5 (by simp; omega)
            have hR6 := box_app (box_alloc hR5 _) (Rep.own_later ho5 (by first | (with_reducible rfl) | omega | (simp; done) | (simp; omega) | (intro b hb; (try dsimp only at hb); simp; omega) | (intro b hb; (try dsimp only at hb); simp [Value.ownBlock]; omega) | (intro b hb; exact hb.elim) | (go_grown; done))) (by decide) hg6
            have hR7 := box_far (p := ⟨L, 6, none⟩) hR6 (by simp only; omega) (.slice A6 (acc.length + 1) c6)
            have hG6 := grownBy_own (grownBy_alloc (grownBy_trans (grownBy_drew hG4) hg5) _) hg6 (fun k e => by have := (hnv k e).1; omega)
            have hG7 := grownBy_new (p := ⟨L, 6, none⟩) hG6 (by simp only; omega) (.slice A6 (acc.length + 1) c6)
            have hs6 := hg6.size
            simp only [World.size_alloc] at hs6
            clear hc0 hc1 hc2 hc3 hc4 hc5 hc6 hf6 hc6' hc6'' hcL hfL hg5 hg6 hsl6 hr6 hr5 ho5 ho6 hR5 hR6 hL5 hL6 hG6 hG4 hr4 ho4 hL4 hR4 hg1
            go_wp2
            go_roundw
            case rel => exact ⟨j - 1, _, _, _, by go_num, HJ2, hL7, by first | exact ho7 | simpa using ho7, hr7, ⟨cR, hcR, hR7⟩, hG7, by simp only [World.size_setCell]; omega, by rw [List.length_append, List.length_singleton]; omega⟩
            case measure => simp [intOf]; omega
        | true =>
          have HJ3 : Hid (refsR n0 st0 [] = (acc, (bs4, true))) := by
            show _ = _
            rw [HJ.out]
            obtain ⟨j', rfl⟩ : ∃ j', j = j' + 1 := ⟨j - 1, by omega⟩
            rfl
          obtain ⟨A7, c7, hv7, hsl7⟩ := Rep.own_sl ho4
          subst hv7
          have hcR' := boxed hR4
          match cR, hcR with
          | [r0, r1, r2, r3, r4, r5, r6], _ =>
            have hd0 := hcR' 0 _ rfl; have hd1 := hcR' 1 _ rfl; have hd2 := hcR' 2 _ rfl; have hd3 := hcR' 3 _ rfl; have hd4 := hcR' 4 _ rfl; have hd5 := hcR' 5 _ rfl; have hd6 := hcR' 6 _ rfl
            have he0 := boxed_frozen hR4 0; have he1 := boxed_frozen hR4 1; have he2 := boxed_frozen hR4 2; have he3 := boxed_frozen hR4 3; have he4 := boxed_frozen hR4 4; have he5 := boxed_frozen hR4 5; have he6 := boxed_frozen hR4 6
            clear hcR'
            go_wp2
            refine bodyPost_ret (v := .agg (lc (ub x) 0 (decide (0 < ct)) ix pp (decide (0 < fl)) (.slice A7 acc.length c7))) (by simp [results, Try.results30, go_sem, hd0, hd1, hd2, hd3, hd4, hd5, hd6]) rfl ?_
            refine ⟨_, rfl, ?_, ?_, ?_⟩
            · rw [HLR.out, HJ3.out]
              refine ⟨_, rfl, ⟨A7, _, c7, rfl, Rep.sl_more (Rep.sl_grown (row := some R) hsl7 (by repeat (first | with_reducible exact World.grownBy.refl _ _ | with_reducible refine grownBy_set ?_ _)) (own_in ho4 (by omega))) (own_in3 ho4 (by simp only [World.size_setCell]; exact Nat.le_refl _) (by omega))⟩, by dsimp only; omega, by dsimp only; omega, by dsimp only; first | omega | simp⟩
            · rw [HLR.out, HJ3.out]
              exact Rdr.grown (row := some R) hr4 (by repeat (first | with_reducible exact World.grownBy.refl _ _ | with_reducible refine grownBy_set ?_ _)) (by simp; omega) (fun b (hb : b < B) => ⟨by omega, by simp; omega⟩)
            · exact grownBy_own (row' := some R) hG4 (by repeat (first | with_reducible exact World.grownBy.refl _ _ | with_reducible refine grownBy_set ?_ _)) (fun k e => by injection e; omega)
      · have HJ3 : Hid (refsR n0 st0 [] = (acc, (bs4, sh4))) := by
          show _ = _
          rw [HJ.out]
          obtain rfl : j = 0 := by omega
          rfl
        obtain ⟨A7, c7, hv7, hsl7⟩ := Rep.own_sl ho4
        subst hv7
        have hcR' := boxed hR4
        match cR, hcR with
        | [r0, r1, r2, r3, r4, r5, r6], _ =>
          have hd0 := hcR' 0 _ rfl; have hd1 := hcR' 1 _ rfl; have hd2 := hcR' 2 _ rfl; have hd3 := hcR' 3 _ rfl; have hd4 := hcR' 4 _ rfl; have hd5 := hcR' 5 _ rfl; have hd6 := hcR' 6 _ rfl
          have he0 := boxed_frozen hR4 0; have he1 := boxed_frozen hR4 1; have he2 := boxed_frozen hR4 2; have he3 := boxed_frozen hR4 3; have he4 := boxed_frozen hR4 4; have he5 := boxed_frozen hR4 5; have he6 := boxed_frozen hR4 6
          clear hcR'
          go_wp2
          refine bodyPost_ret (v := .agg (lc (ub x) 0 (decide (0 < ct)) ix pp (decide (0 < fl)) (.slice A7 acc.length c7))) (by simp [results, Try.results30, go_sem, hd0, hd1, hd2, hd3, hd4, hd5, hd6]) rfl ?_
          refine ⟨_, rfl, ?_, ?_, ?_⟩
          · rw [HLR.out, HJ3.out]
            refine ⟨_, rfl, ⟨A7, _, c7, rfl, Rep.sl_more (Rep.sl_grown (row := some R) hsl7 (by repeat (first | with_reducible exact World.grownBy.refl _ _ | with_reducible refine grownBy_set ?_ _)) (own_in ho4 (by omega))) (own_in3 ho4 (by simp only [World.size_setCell]; exact Nat.le_refl _) (by omega))⟩, by dsimp only; omega, by dsimp only; omega, by dsimp only; first | omega | simp⟩
          · rw [HLR.out, HJ3.out]
            exact Rdr.grown (row := some R) hr4 (by repeat (first | with_reducible exact World.grownBy.refl _ _ | with_reducible refine grownBy_set ?_ _)) (by simp; omega) (fun b (hb : b < B) => ⟨by omega, by simp; omega⟩)
          · exact grownBy_own (row' := some R) hG4 (by repeat (first | with_reducible exact World.grownBy.refl _ _ | with_reducible refine grownBy_set ?_ _)) (fun k e => by injection e; omega)
end Go.Proofs.Ytkgkbaicjpgljaa
