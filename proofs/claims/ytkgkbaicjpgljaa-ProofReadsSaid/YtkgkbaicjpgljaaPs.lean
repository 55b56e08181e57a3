/- The reference of the package proof: a line in front of bytes, of the other kinds: the main way. -/
import Derived.Test.YtkgkbaicjpgljaaPq
namespace Go.Proofs.Ytkgkbaicjpgljaa
open Go.RowKit
set_option linter.unusedVariables false

set_option maxRecDepth 100000 in
set_option maxHeartbeats 4000000 in
theorem getref_4 (b : List UInt8) (A : Option Addr) (n c : Nat) (w : World) (hs : Rep.u8.sl w (fun x => x < w.heap.size) A n c b) (hn0 : 0 < n) (hn : n ≤ 1000000000) (hk1 : ¬ gb b 0 = 1) (hk2 : ¬ gb b 0 < 2) (hk4 : ¬ 4 < gb b 0) (hn5 : ¬ n < 5) (hg1 : ¬ 1 < gb b 1) (hg4 : ¬ 3 < gb b 4) (hn7 : ¬ n < 7 + gb b 4) (hfb : ¬ 1 < gb b (5 + gb b 4)) (ht1 : gb b (6 + gb b 4) ≤ 16) (ht2 : 6 + gb b 4 + 1 + 2 * gb b (6 + gb b 4) ≤ n) :
    Calls Try.prog 33 #[.slice A n c] w (GetR b w) := by
  obtain ⟨B, o, rfl, hBl, hcell⟩ := cells_bytes hs hn0
  have HN := Lib.hid hs.1
  have hc0 := hcell 0 hn0
  rw [Nat.add_zero] at hc0
  have HC := Lib.hid hcell
  have l0 := gb_lt b 0
  have hkk : ((gb b 0 : Int) == 1) = false := by simp only [beq_eq_false_iff_ne, ne_eq]; omega
  have HK := Lib.hid hk1
  have hnc := hs.2.1
  have hcm := hs.2.2.1
  have HS := Lib.hid hs
  clear hcell hk1 hs
  have hc1 := HC.out 1 (by omega)
  have hc2 := HC.out 2 (by omega)
  have hc3 := HC.out 3 (by omega)
  have hc4 := HC.out 4 (by omega)
  have l1 := gb_lt b 1
  have l2 := gb_lt b 2
  have l3 := gb_lt b 3
  have l4 := gb_lt b 4
  have hcf := HC.out (5 + gb b 4) (by omega)
  have hcn := HC.out (6 + gb b 4) (by omega)
  have lf := gb_lt b (5 + gb b 4)
  have ln := gb_lt b (6 + gb b 4)
  have hsl5 := Rep.sl_take (Rep.sl_cut HS.out (k := 5) (by omega)) (k := gb b 4) (by omega)
  rw [if_neg (by omega), show Rep.u8.size = 1 from rfl, Nat.mul_one] at hsl5
  simp only [Option.map_some, Addr.add_lit] at hsl5
  have hcv := fun (o1 o2 : Obj) => conv_bs (w := ((w.alloc o1).alloc o2).drew) Try.underlying25 Try.underlying5 Try.underlying9 (Rep.sl_below (B := w.heap.size) hsl5 (Below.drew (Below.alloc (Below.alloc (Below.refl _ _) (Nat.le_refl _) o1) (by simp) o2)) (fun _ h => h))
  clear hsl5
  have hpl : ((b.drop 5).take (gb b 4)).length ≤ 3 := by rw [List.length_take]; omega
  generalize hpa : (b.drop 5).take (gb b 4) = pa at *
  have HPA := Lib.hid hpa
  clear hpa
  have W3 : IntKind.i64.wrap (256 * (gb b 2 : Int)) = 256 * (gb b 2 : Int) := IntWalk.i64_in _ (by omega)
  have W4 : IntKind.i64.wrap (256 * (gb b 2 : Int) + (gb b 3 : Int)) = 256 * (gb b 2 : Int) + (gb b 3 : Int) := IntWalk.i64_in _ (by omega)
  have W5 : IntKind.i64.wrap (5 + (gb b 4 : Int)) = 5 + (gb b 4 : Int) := IntWalk.i64_in _ (by omega)
  have W6 : (5 + (gb b 4 : Int)).toNat = 5 + gb b 4 := by omega
  have W7 : 5 + gb b 4 - 5 = gb b 4 := by omega
  have hq1 : (5 : Int) ≤ 5 + (gb b 4 : Int) := by omega
  have hq2 : 5 + (gb b 4 : Int) ≤ (c : Int) := by omega
  have hq3 : (5 : Int) ≤ (c : Int) := by omega
  have hq4 : ¬ c = 5 := by omega
  obtain ⟨ct, hct⟩ : ∃ ct : Bool, ct = (gb b 1 == 1) := ⟨_, rfl⟩
  obtain ⟨fl, hfl⟩ : ∃ fl : Bool, fl = (gb b (5 + gb b 4) == 1) := ⟨_, rfl⟩
  have hw1 : ((gb b 1 : Int) == 1) = ct := by rw [hct, Bool.eq_iff_iff]; simp; omega
  have hw2 : ((gb b (5 + gb b 4) : Int) == 1) = fl := by rw [hfl, Bool.eq_iff_iff]; simp; omega
  have HRE : Hid (refL b = if 1 < gb b (5 + gb b 4) then none else refTail b ⟨b.getD 0 0, 0, ct, 256 * (gb b 2 : Int) + (gb b 3 : Int), pa, fl, []⟩ (6 + gb b 4)) := by
    show _ = _
    unfold refL
    have := HN.out
    rw [if_neg HK.out, if_neg (by omega), hct, hfl, HPA.out]
    rfl
  have HCT := Lib.hid hct
  have HFL := Lib.hid hfl
  clear hct hfl
  have HRL : Hid (refL b = some (⟨b.getD 0 0, 0, ct, 256 * (gb b 2 : Int) + (gb b 3 : Int), pa, fl, (List.range (gb b (6 + gb b 4))).map fun i => ((256 * gb b (6 + gb b 4 + 1 + 2 * i) + gb b (6 + gb b 4 + 2 + 2 * i) : Nat) : Int)⟩, 6 + gb b 4 + 1 + 2 * gb b (6 + gb b 4))) := by
    show _ = _
    have := HN.out
    rw [HRE.out, if_neg hfb, refTail, if_neg (by omega)]
  have hbl : ∀ i, i < gb b (6 + gb b 4) → w.cell? ⟨B, o + (6 + gb b 4 + 1 + 2 * i), none⟩ = some (.int .u8 (gb b (6 + gb b 4 + 1 + 2 * i) : Int)) ∧ w.cell? ⟨B, o + (6 + gb b 4 + 2 + 2 * i), none⟩ = some (.int .u8 (gb b (6 + gb b 4 + 2 + 2 * i) : Int)) := fun i hi => ⟨HC.out _ (by omega), HC.out _ (by omega)⟩
  have HBL := Lib.hid hbl
  clear hbl
  go_enter Try.func33, Try.ntmps33
  go_wp2
  go_region
  go_wp2
  go_loopw [8] (fun i wr => ∃ (j : Nat) (v : Value) (cR : List Value), j ≤ gb b (6 + gb b 4) ∧ i = .int .i64 j ∧ wr.heap[w.heap.size + 1]? = some (.cells (lc (b.getD 0 0) 0 ct (256 * (gb b 2 : Int) + (gb b 3 : Int)) pa fl v) 42 (0, 0)) ∧ cR.length = 7 ∧ wr.heap[w.heap.size]? = some (.cells cR.toArray 42 (0, 0)) ∧
    Rep.i64.own 3 wr (w.heap.size + 2) (fun _ => False) v ((List.range j).map fun i => ((256 * gb b ((6 + gb b 4 + 1) + 2 * i) + gb b ((6 + gb b 4 + 2) + 2 * i) : Nat) : Int)) ∧ Below w.heap.size w wr) (fun i _ => gb b (6 + gb b 4) - (intOf i).toNat)
  case atStart => exact ⟨0, _, _, Nat.zero_le _, rfl, box_at (by simp), rfl, box_alloc (box_new w _ _) _, Rep.own_nil, by go_grown⟩
  case round =>
    obtain ⟨j, v, cR, hj, rfl, hL, hcR, hR, hown, hB⟩ := hrel
    have hsz := (Array.getElem?_eq_some_iff.1 hL).1
    by_cases hlt : j < gb b (6 + gb b 4)
    · obtain ⟨hb1, hb2⟩ := HBL.out j hlt
      have hd1 := (hB.cell (p := ⟨B, o + ((6 + gb b 4 + 1) + 2 * j), none⟩) hBl).trans hb1
      have hd2 := (hB.cell (p := ⟨B, o + ((6 + gb b 4 + 2) + 2 * j), none⟩) hBl).trans hb2
      have hc6 := boxed hL 6 _ rfl
      have hf6 := boxed_frozen hL 6
      have hi1 : (0 : Int) ≤ (6 + (gb b 4 : Int) + 1) + 2 * (j : Int) := by omega
      have hi2 : (6 + (gb b 4 : Int) + 1) + 2 * (j : Int) < (n : Int) := by omega
      have hi3 : (0 : Int) ≤ (6 + (gb b 4 : Int) + 2) + 2 * (j : Int) := by omega
      have hi4 : (6 + (gb b 4 : Int) + 2) + 2 * (j : Int) < (n : Int) := by omega
      have ly1 := gb_lt b ((6 + gb b 4 + 1) + 2 * j)
      have ly2 := gb_lt b ((6 + gb b 4 + 2) + 2 * j)
      have hrl : ((List.range j).map fun i => ((256 * gb b ((6 + gb b 4 + 1) + 2 * i) + gb b ((6 + gb b 4 + 2) + 2 * i) : Nat) : Int)).length = j := by simp
      have HT : Hid ((List.range j).map (fun i => ((256 * gb b ((6 + gb b 4 + 1) + 2 * i) + gb b ((6 + gb b 4 + 2) + 2 * i) : Nat) : Int)) ++ [256 * (gb b ((6 + gb b 4 + 1) + 2 * j) : Int) + (gb b ((6 + gb b 4 + 2) + 2 * j) : Int)] = (List.range (j + 1)).map fun i => ((256 * gb b ((6 + gb b 4 + 1) + 2 * i) + gb b ((6 + gb b 4 + 2) + 2 * i) : Nat) : Int)) := by
        show _ = _
        rw [List.range_succ, List.map_append]
        simp
      generalize (List.range j).map (fun i => ((256 * gb b ((6 + gb b 4 + 1) + 2 * i) + gb b ((6 + gb b 4 + 2) + 2 * i) : Nat) : Int)) = acc at *
      have hal : acc.length ≤ 256 := by omega
      clear hb1 hb2 hrl
      have hc6a := (fun x => boxed (box_alloc hL x) 6 _ rfl)
      have W1 : IntKind.i64.wrap (6 + (gb b 4 : Int) + 1) = (6 + (gb b 4 : Int) + 1) := IntWalk.i64_in _ (by omega)
      have W2 : IntKind.i64.wrap (6 + (gb b 4 : Int) + 2) = (6 + (gb b 4 : Int) + 2) := IntWalk.i64_in _ (by omega)
      have W3 : IntKind.i64.wrap (2 * (j : Int)) = 2 * (j : Int) := IntWalk.i64_in _ (by omega)
      have W4 : IntKind.i64.wrap ((6 + (gb b 4 : Int) + 1) + 2 * (j : Int)) = (6 + (gb b 4 : Int) + 1) + 2 * (j : Int) := IntWalk.i64_in _ (by omega)
      have W5 : IntKind.i64.wrap ((6 + (gb b 4 : Int) + 2) + 2 * (j : Int)) = (6 + (gb b 4 : Int) + 2) + 2 * (j : Int) := IntWalk.i64_in _ (by omega)
      have W6 : ((6 + (gb b 4 : Int) + 1) + 2 * (j : Int)).toNat = (6 + gb b 4 + 1) + 2 * j := by omega
      have W7 : ((6 + (gb b 4 : Int) + 2) + 2 * (j : Int)).toNat = (6 + gb b 4 + 2) + 2 * j := by omega
      have W8 : IntKind.i64.wrap (256 * (gb b ((6 + gb b 4 + 1) + 2 * j) : Int)) = 256 * (gb b ((6 + gb b 4 + 1) + 2 * j) : Int) := IntWalk.i64_in _ (by omega)
      have W9 : IntKind.i64.wrap (256 * (gb b ((6 + gb b 4 + 1) + 2 * j) : Int) + (gb b ((6 + gb b 4 + 2) + 2 * j) : Int)) = 256 * (gb b ((6 + gb b 4 + 1) + 2 * j) : Int) + (gb b ((6 + gb b 4 + 2) + 2 * j) : Int) := IntWalk.i64_in _ (by omega)
      have W10 : IntKind.i64.wrap (gb b ((6 + gb b 4 + 1) + 2 * j) : Int) = (gb b ((6 + gb b 4 + 1) + 2 * j) : Int) := IntWalk.i64_in _ (by omega)
      have W11 : IntKind.i64.wrap (gb b ((6 + gb b 4 + 2) + 2 * j) : Int) = (gb b ((6 + gb b 4 + 2) + 2 * j) : Int) := IntWalk.i64_in _ (by omega)
      go_wp2_with fail
      go_region_law (first | ((refine step_app1 (by rfl) TI _ _ (by rfl) (by rfl) (Rep.own_later (w := wr) hown (by first | (with_reducible rfl) | omega | (simp; done) | (simp; omega) | (intro b hb; (try dsimp only at hb); simp; omega) | (intro b hb; (try dsimp only at hb); simp [Value.ownBlock]; omega) | (intro b hb; exact hb.elim) | (go_grown; done))) [_] (256 * (gb b ((6 + gb b 4 + 1) + 2 * j) : Int) + (gb b ((6 + gb b 4 + 2) + 2 * j) : Int)) (by rfl) (cell_one_new _ _ _) (show Rep.i64.rd _ _ _ _ from ⟨rfl, by omega, by omega⟩) (by first | (with_reducible rfl) | omega | (simp; done) | (simp; omega) | (intro b hb; (try dsimp only at hb); simp; omega) | (intro b hb; (try dsimp only at hb); simp [Value.ownBlock]; omega) | (intro b hb; exact hb.elim) | (go_grown; done)) (by first | (with_reducible rfl) | omega | (simp; done) | (simp; omega) | (intro b hb; (try dsimp only at hb); simp; omega) | (intro b hb; (try dsimp only at hb); simp [Value.ownBlock]; omega) | (intro b hb; exact hb.elim) | (go_grown; done)) (by simp; omega) (fun _ (h : False) => h.elim) ?_; intro v6 w6 ho6 hg6; have hL6 := box_app (w := (wr.alloc _).drew) (box_alloc hL _) (Rep.own_later (w := wr) hown (by first | (with_reducible rfl) | omega | (simp; done) | (simp; omega) | (intro b hb; (try dsimp only at hb); simp; omega) | (intro b hb; (try dsimp only at hb); simp [Value.ownBlock]; omega) | (intro b hb; exact hb.elim) | (go_grown; done))) (by decide) hg6; have hR6 := box_app (w := (wr.alloc _).drew) (box_alloc hR _) (Rep.own_later (w := wr) hown (by first | (with_reducible rfl) | omega | (simp; done) | (simp; omega) | (intro b hb; (try dsimp only at hb); simp; omega) | (intro b hb; (try dsimp only at hb); simp [Value.ownBlock]; omega) | (intro b hb; exact hb.elim) | (go_grown; done))) (by decide) hg6; have hB6 := Below.grown (Below.drew (Below.alloc hB (by omega) _)) hg6 (by simp; omega) (fun k hk => by have hh := (Rep.own_lt hown k hk).1; omega); obtain ⟨A6, c6, hv6, hsl6⟩ := Rep.own_sl ho6; subst hv6; have hcL := boxed hL6 6 _ rfl; have hfL := boxed_frozen hL6 6)))
      all_goals
        have hL7 : (w6.setCell ⟨w.heap.size + 1, 6, none⟩ (.slice A6 (acc.length + 1) c6)).heap[w.heap.size + 1]? = some (.cells (lc (b.getD 0 0) 0 ct (256 * (gb b 2 : Int) + (gb b 3 : Int)) pa fl (.slice A6 (acc.length + 1) c6)) 42 (0, 0)) := box_set hL6 _
        have ho7 := Rep.own_setFar (p := ⟨w.heap.size + 1, 6, none⟩) (u := .slice A6 (acc.length + 1) c6) ho6 (own_blk ho6 hL6 (by decide))
        have hal2 : (acc ++ [256 * (gb b ((6 + gb b 4 + 1) + 2 * j) : Int) + (gb b ((6 + gb b 4 + 2) + 2 * j) : Int)]).length = acc.length + 1 := by rw [List.length_append, List.length_singleton]
        (try rw [hal2] at ho7)
        rw [HT.out] at ho7
        have hR7 := box_far (p := ⟨w.heap.size + 1, 6, none⟩) hR6 (by simp only; omega) (.slice A6 (acc.length + 1) c6)
        have hB7 := Below.setCell (p := ⟨w.heap.size + 1, 6, none⟩) hB6 (by simp only; omega) (.slice A6 (acc.length + 1) c6)
        clear W1 W2 W3 W4 W5 W6 W7 W8 W9 W10 W11 hc6a hd1 hd2 hc6 hf6 hcL hfL hg6 hsl6 hL6 hR6 hB6 ho6 hL hR hown
        go_wp2
        go_roundw
        case rel => exact ⟨j + 1, _, cR, by omega, by go_num, hL7, hcR, hR7, ho7, hB7⟩
        case measure => simp [intOf]; omega
    · have hje : j = gb b (6 + gb b 4) := by omega
      subst hje
      obtain ⟨A7, c7, hv7, hsl7⟩ := Rep.own_sl hown
      subst hv7
      have hrl : Hid (((List.range (gb b (6 + gb b 4))).map fun i => ((256 * gb b ((6 + gb b 4 + 1) + 2 * i) + gb b ((6 + gb b 4 + 2) + 2 * i) : Nat) : Int)).length = gb b (6 + gb b 4)) := by show _ = _; simp
      have hrl2 := hrl.out
      have HREF : Hid (refL b = some (⟨(b.getD 0 0), 0, ct, (256 * (gb b 2 : Int) + (gb b 3 : Int)), pa, fl, (List.range (gb b (6 + gb b 4))).map fun i => ((256 * gb b ((6 + gb b 4 + 1) + 2 * i) + gb b ((6 + gb b 4 + 2) + 2 * i) : Nat) : Int)⟩, (6 + gb b 4 + 1) + 2 * gb b (6 + gb b 4))) := HRL.out
      generalize (List.range (gb b (6 + gb b 4))).map (fun i => ((256 * gb b ((6 + gb b 4 + 1) + 2 * i) + gb b ((6 + gb b 4 + 2) + 2 * i) : Nat) : Int)) = refs at *
      have hrl3 : refs.length ≤ 255 := by omega
      clear hrl2
      have hcR' := boxed hR
      match cR, hcR with
      | [r0, r1, r2, r3, r4, r5, r6], _ =>
        have hd0 := hcR' 0 _ rfl; have hd1 := hcR' 1 _ rfl; have hd2 := hcR' 2 _ rfl; have hd3 := hcR' 3 _ rfl; have hd4 := hcR' 4 _ rfl; have hd5 := hcR' 5 _ rfl; have hd6 := hcR' 6 _ rfl
        have he0 := boxed_frozen hR 0; have he1 := boxed_frozen hR 1; have he2 := boxed_frozen hR 2; have he3 := boxed_frozen hR 3; have he4 := boxed_frozen hR 4; have he5 := boxed_frozen hR 5; have he6 := boxed_frozen hR 6
        have hc := boxed hL
        have hx0 := hc 0 _ rfl; have hx1 := hc 1 _ rfl; have hx2 := hc 2 _ rfl; have hx3 := hc 3 _ rfl; have hx4 := hc 4 _ rfl; have hx5 := hc 5 _ rfl; have hx6 := hc 6 _ rfl
        clear hcR' hc
        go_wp2
        refine bodyPost_ret (v := .tuple #[.agg (lc (b.getD 0 0) 0 ct (256 * (gb b 2 : Int) + (gb b 3 : Int)) pa fl (.slice A7 refs.length c7)), .int .i64 ((6 + (gb b 4 : Int) + 1) + 2 * (gb b (6 + gb b 4) : Int)), .bool true]) (by simp [results, Try.results33, go_sem, hd0, hd1, hd2, hd3, hd4, hd5, hd6]) rfl ?_
        have hlt7 := own_in3 (M := w.heap.size) hown (Nat.le_refl _) (by omega)
        have hin7 := own_in (R := w.heap.size) hown (by omega)
        refine ⟨_, _, _, rfl, ?_, .inr ⟨_, _, HREF.out, rfl, by omega, _, rfl, ⟨A7, _, c7, rfl, Rep.sl_more (Rep.sl_grown (row := some w.heap.size) hsl7 (by repeat (first | with_reducible exact World.grownBy.refl _ _ | with_reducible refine grownBy_set ?_ _)) hin7) (fun b hb => by simp only [World.size_setCell]; exact hlt7 b hb)⟩, by dsimp only; omega, by dsimp only; omega, by dsimp only; first | omega | simp⟩⟩
        exact hB.grown (row := some w.heap.size) (by repeat (first | with_reducible exact World.grownBy.refl _ _ | with_reducible refine grownBy_set ?_ _)) (by omega) (fun k e => by injection e; omega)
end Go.Proofs.Ytkgkbaicjpgljaa
