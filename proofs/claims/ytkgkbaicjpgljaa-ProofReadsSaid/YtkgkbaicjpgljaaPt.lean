/- The reference of the package proof: a line in front of bytes, of the other kinds. -/
import Derived.Test.YtkgkbaicjpgljaaPs
namespace Go.Proofs.Ytkgkbaicjpgljaa
open Go.RowKit
set_option linter.unusedVariables false

set_option maxRecDepth 100000 in
set_option maxHeartbeats 4000000 in
theorem getref_3 (b : List UInt8) (A : Option Addr) (n c : Nat) (w : World) (hs : Rep.u8.sl w (fun x => x < w.heap.size) A n c b) (hn0 : 0 < n) (hn : n ≤ 1000000000) (hk1 : ¬ gb b 0 = 1) (hk2 : ¬ gb b 0 < 2) (hk4 : ¬ 4 < gb b 0) (hn5 : ¬ n < 5) (hg1 : ¬ 1 < gb b 1) (hg4 : ¬ 3 < gb b 4) (hn7 : ¬ n < 7 + gb b 4) :
    Calls Try.prog 33 #[.slice A n c] w (GetR b w) := by
  obtain ⟨B, o, rfl, hBl, hcell⟩ := cells_bytes hs hn0
  have HN := Lib.hid hs.1
  have hc0 := hcell 0 hn0
  rw [Nat.add_zero] at hc0
  have HC := Lib.hid hcell
  have l0 := gb_lt b 0
  have hkk : ((gb b 0 : Int) == 1) = false := by simp only [beq_eq_false_iff_ne, ne_eq]; omega
  have HK := Lib.hid hk1
  have hnc := hs.2.1
  have hcm := hs.2.2.1
  have HS := Lib.hid hs
  clear hcell hk1 hs
  have hc1 := HC.out 1 (by omega)
  have hc2 := HC.out 2 (by omega)
  have hc3 := HC.out 3 (by omega)
  have hc4 := HC.out 4 (by omega)
  have l1 := gb_lt b 1
  have l2 := gb_lt b 2
  have l3 := gb_lt b 3
  have l4 := gb_lt b 4
  have hcf := HC.out (5 + gb b 4) (by omega)
  have hcn := HC.out (6 + gb b 4) (by omega)
  have lf := gb_lt b (5 + gb b 4)
  have ln := gb_lt b (6 + gb b 4)
  have hsl5 := Rep.sl_take (Rep.sl_cut HS.out (k := 5) (by omega)) (k := gb b 4) (by omega)
  rw [if_neg (by omega), show Rep.u8.size = 1 from rfl, Nat.mul_one] at hsl5
  simp only [Option.map_some, Addr.add_lit] at hsl5
  have hcv := fun (o1 o2 : Obj) => conv_bs (w := ((w.alloc o1).alloc o2).drew) Try.underlying25 Try.underlying5 Try.underlying9 (Rep.sl_below (B := w.heap.size) hsl5 (Below.drew (Below.alloc (Below.alloc (Below.refl _ _) (Nat.le_refl _) o1) (by simp) o2)) (fun _ h => h))
  clear hsl5
  have hpl : ((b.drop 5).take (gb b 4)).length ≤ 3 := by rw [List.length_take]; omega
  generalize hpa : (b.drop 5).take (gb b 4) = pa at *
  have HPA := Lib.hid hpa
  clear hpa
  have W3 : IntKind.i64.wrap (256 * (gb b 2 : Int)) = 256 * (gb b 2 : Int) := IntWalk.i64_in _ (by omega)
  have W4 : IntKind.i64.wrap (256 * (gb b 2 : Int) + (gb b 3 : Int)) = 256 * (gb b 2 : Int) + (gb b 3 : Int) := IntWalk.i64_in _ (by omega)
  have W5 : IntKind.i64.wrap (5 + (gb b 4 : Int)) = 5 + (gb b 4 : Int) := IntWalk.i64_in _ (by omega)
  have W6 : (5 + (gb b 4 : Int)).toNat = 5 + gb b 4 := by omega
  have W7 : 5 + gb b 4 - 5 = gb b 4 := by omega
  have hq1 : (5 : Int) ≤ 5 + (gb b 4 : Int) := by omega
  have hq2 : 5 + (gb b 4 : Int) ≤ (c : Int) := by omega
  have hq3 : (5 : Int) ≤ (c : Int) := by omega
  have hq4 : ¬ c = 5 := by omega
  obtain ⟨ct, hct⟩ : ∃ ct : Bool, ct = (gb b 1 == 1) := ⟨_, rfl⟩
  obtain ⟨fl, hfl⟩ : ∃ fl : Bool, fl = (gb b (5 + gb b 4) == 1) := ⟨_, rfl⟩
  have hw1 : ((gb b 1 : Int) == 1) = ct := by rw [hct, Bool.eq_iff_iff]; simp; omega
  have hw2 : ((gb b (5 + gb b 4) : Int) == 1) = fl := by rw [hfl, Bool.eq_iff_iff]; simp; omega
  have HRE : Hid (refL b = if 1 < gb b (5 + gb b 4) then none else refTail b ⟨b.getD 0 0, 0, ct, 256 * (gb b 2 : Int) + (gb b 3 : Int), pa, fl, []⟩ (6 + gb b 4)) := by
    show _ = _
    unfold refL
    have := HN.out
    rw [if_neg HK.out, if_neg (by omega), hct, hfl, HPA.out]
    rfl
  have HCT := Lib.hid hct
  have HFL := Lib.hid hfl
  clear hct hfl
  by_cases hfb : 1 < gb b (5 + gb b 4)
  · have HR : Hid (refL b = none) := by show _ = _; rw [HRE.out, if_pos hfb]
    go_enter Try.func33, Try.ntmps33
    go_wp2
    go_region
    go_wp2
    refine bodyPost_ret (v := .tuple #[.agg #[.int .u8 (gb b 0 : Int), .int .i64 0, .bool ct, .int .i64 (256 * (gb b 2 : Int) + (gb b 3 : Int)), .string ⟨pa.toArray⟩, .bool false, .slice none 0 0], .int .i64 0, .bool false]) (by simp [results, Try.results33, go_sem]) rfl ?_
    exact ⟨_, _, _, rfl, by go_grown, .inl ⟨HR.out, rfl, _, _, _, _, _, _, _, _, _, rfl⟩⟩
  · by_cases ht : gb b (6 + gb b 4) ≤ 16 ∧ 6 + gb b 4 + 1 + 2 * gb b (6 + gb b 4) ≤ n
    · obtain ⟨ht1, ht2⟩ := ht
      exact getref_4 b _ n c w HS.out hn0 hn HK.out hk2 hk4 hn5 hg1 hg4 hn7 hfb ht1 ht2
    · have HR : Hid (refL b = none) := by
        show _ = _
        have := HN.out
        rw [HRE.out, if_neg hfb, refTail, if_pos (by omega)]
      by_cases ht1 : 16 < gb b (6 + gb b 4)
      · clear ht
        go_enter Try.func33, Try.ntmps33
        go_wp2
        go_region
        go_wp2
        refine bodyPost_ret (v := .tuple #[.agg #[.int .u8 (gb b 0 : Int), .int .i64 0, .bool ct, .int .i64 (256 * (gb b 2 : Int) + (gb b 3 : Int)), .string ⟨pa.toArray⟩, .bool fl, .slice none 0 0], .int .i64 0, .bool false]) (by simp [results, Try.results33, go_sem]) rfl ?_
        exact ⟨_, _, _, rfl, by go_grown, .inl ⟨HR.out, rfl, _, _, _, _, _, _, _, _, _, rfl⟩⟩
      · have ht2 : n < 6 + gb b 4 + 1 + 2 * gb b (6 + gb b 4) := by omega
        clear ht
        go_enter Try.func33, Try.ntmps33
        go_wp2
        go_region
        go_wp2
        refine bodyPost_ret (v := .tuple #[.agg #[.int .u8 (gb b 0 : Int), .int .i64 0, .bool ct, .int .i64 (256 * (gb b 2 : Int) + (gb b 3 : Int)), .string ⟨pa.toArray⟩, .bool fl, .slice none 0 0], .int .i64 0, .bool false]) (by simp [results, Try.results33, go_sem]) rfl ?_
        exact ⟨_, _, _, rfl, by go_grown, .inl ⟨HR.out, rfl, _, _, _, _, _, _, _, _, _, rfl⟩⟩
end Go.Proofs.Ytkgkbaicjpgljaa
