/- The reference of the package proof: a line in front of bytes, of the other kinds. -/
import Derived.Test.YtkgkbaicjpgljaaPt
namespace Go.Proofs.Ytkgkbaicjpgljaa
open Go.RowKit
set_option linter.unusedVariables false

set_option maxRecDepth 100000 in
set_option maxHeartbeats 4000000 in
theorem getref_2 (b : List UInt8) (A : Option Addr) (n c : Nat) (w : World) (hs : Rep.u8.sl w (fun x => x < w.heap.size) A n c b) (hn0 : 0 < n) (hn : n ≤ 1000000000) (hk1 : ¬ gb b 0 = 1) :
    Calls Try.prog 33 #[.slice A n c] w (GetR b w) := by
  obtain ⟨B, o, rfl, hBl, hcell⟩ := cells_bytes hs hn0
  have HN := Lib.hid hs.1
  have hc0 := hcell 0 hn0
  rw [Nat.add_zero] at hc0
  have HC := Lib.hid hcell
  have l0 := gb_lt b 0
  have hkk : ((gb b 0 : Int) == 1) = false := by simp only [beq_eq_false_iff_ne, ne_eq]; omega
  have HK := Lib.hid hk1
  have hnc := hs.2.1
  have hcm := hs.2.2.1
  have HS := Lib.hid hs
  clear hcell hk1 hs
  have hbad : ((gb b 0 < 2 ∨ 4 < gb b 0) ∨ b.length < 5 ∨ 1 < gb b 1 ∨ 3 < gb b 4 ∨ b.length < 7 + gb b 4) → refL b = none := by
    intro h
    unfold refL
    rw [if_neg HK.out, if_pos h]
  have HBAD := Lib.hid hbad
  clear hbad
  by_cases hk2 : gb b 0 < 2
  · have HR : Hid (refL b = none) := HBAD.out (.inl (.inl hk2))
    go_enter Try.func33, Try.ntmps33
    go_wp2
    refine bodyPost_ret (v := .tuple #[.agg #[.int .u8 (gb b 0 : Int), .int .i64 0, .bool false, .int .i64 0, .string ⟨#[]⟩, .bool false, .slice none 0 0], .int .i64 0, .bool false]) (by simp [results, Try.results33, go_sem]) rfl ?_
    exact ⟨_, _, _, rfl, by go_grown, .inl ⟨HR.out, rfl, _, _, _, _, _, _, _, _, _, rfl⟩⟩
  · by_cases hk4 : 4 < gb b 0
    · have HR : Hid (refL b = none) := HBAD.out (.inl (.inr hk4))
      go_enter Try.func33, Try.ntmps33
      go_wp2
      refine bodyPost_ret (v := .tuple #[.agg #[.int .u8 (gb b 0 : Int), .int .i64 0, .bool false, .int .i64 0, .string ⟨#[]⟩, .bool false, .slice none 0 0], .int .i64 0, .bool false]) (by simp [results, Try.results33, go_sem]) rfl ?_
      exact ⟨_, _, _, rfl, by go_grown, .inl ⟨HR.out, rfl, _, _, _, _, _, _, _, _, _, rfl⟩⟩
    · by_cases hn5 : n < 5
      · have HR : Hid (refL b = none) := HBAD.out (.inr (.inl (by have := HN.out; omega)))
        go_enter Try.func33, Try.ntmps33
        go_wp2
        refine bodyPost_ret (v := .tuple #[.agg #[.int .u8 (gb b 0 : Int), .int .i64 0, .bool false, .int .i64 0, .string ⟨#[]⟩, .bool false, .slice none 0 0], .int .i64 0, .bool false]) (by simp [results, Try.results33, go_sem]) rfl ?_
        exact ⟨_, _, _, rfl, by go_grown, .inl ⟨HR.out, rfl, _, _, _, _, _, _, _, _, _, rfl⟩⟩
      · have hc1 := HC.out 1 (by omega)
        have hc4 := HC.out 4 (by omega)
        have l1 := gb_lt b 1
        have l4 := gb_lt b 4
        by_cases hg1 : 1 < gb b 1
        · have HR : Hid (refL b = none) := HBAD.out (.inr (.inr (.inl hg1)))
          go_enter Try.func33, Try.ntmps33
          go_wp2
          refine bodyPost_ret (v := .tuple #[.agg #[.int .u8 (gb b 0 : Int), .int .i64 0, .bool false, .int .i64 0, .string ⟨#[]⟩, .bool false, .slice none 0 0], .int .i64 0, .bool false]) (by simp [results, Try.results33, go_sem]) rfl ?_
          exact ⟨_, _, _, rfl, by go_grown, .inl ⟨HR.out, rfl, _, _, _, _, _, _, _, _, _, rfl⟩⟩
        · by_cases hg4 : 3 < gb b 4
          · have HR : Hid (refL b = none) := HBAD.out (.inr (.inr (.inr (.inl hg4))))
            go_enter Try.func33, Try.ntmps33
            go_wp2
            refine bodyPost_ret (v := .tuple #[.agg #[.int .u8 (gb b 0 : Int), .int .i64 0, .bool false, .int .i64 0, .string ⟨#[]⟩, .bool false, .slice none 0 0], .int .i64 0, .bool false]) (by simp [results, Try.results33, go_sem]) rfl ?_
            exact ⟨_, _, _, rfl, by go_grown, .inl ⟨HR.out, rfl, _, _, _, _, _, _, _, _, _, rfl⟩⟩
          · by_cases hn7 : n < 7 + gb b 4
            · have HR : Hid (refL b = none) := HBAD.out (.inr (.inr (.inr (.inr (by have := HN.out; omega)))))
              go_enter Try.func33, Try.ntmps33
              go_wp2
              refine bodyPost_ret (v := .tuple #[.agg #[.int .u8 (gb b 0 : Int), .int .i64 0, .bool false, .int .i64 0, .string ⟨#[]⟩, .bool false, .slice none 0 0], .int .i64 0, .bool false]) (by simp [results, Try.results33, go_sem]) rfl ?_
              exact ⟨_, _, _, rfl, by go_grown, .inl ⟨HR.out, rfl, _, _, _, _, _, _, _, _, _, rfl⟩⟩
            · exact getref_3 b _ n c w HS.out hn0 hn HK.out hk2 hk4 hn5 hg1 hg4 hn7

theorem getref_c (b : List UInt8) (A : Option Addr) (n c : Nat) (w : World) (hs : Rep.u8.sl w (fun x => x < w.heap.size) A n c b) (hn0 : 0 < n) (hn : n ≤ 1000000000) :
    Calls Try.prog 33 #[.slice A n c] w (GetR b w) := by
  by_cases h : gb b 0 = 1
  · exact getref_1 b A n c w hs hn0 hn h
  · exact getref_2 b A n c w hs hn0 hn h
end Go.Proofs.Ytkgkbaicjpgljaa
