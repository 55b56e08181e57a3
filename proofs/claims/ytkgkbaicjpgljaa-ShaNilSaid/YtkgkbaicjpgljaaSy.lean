/- The law of no hash. -/
import Derived.Test.YtkgkbaicjpgljaaSx
namespace Go.Proofs.Ytkgkbaicjpgljaa
open Go.RowKit Go.Lib
set_option linter.unusedVariables false

theorem writenil_c (A : Option Addr) (n c : Nat) (w : World) : Calls Try.prog 24 #[.pointer none, .slice A n c] w fun e w' => e = .returned (.tuple #[]) ∧ w = w' := by
  go_enter Try.func24, Try.ntmps24
  go_wp2
  exact bodyPost_ret (results_none (h := rfl) _ _ _) rfl ⟨rfl, rfl⟩

attribute [local irreducible] shaL

set_option maxHeartbeats 2000000 in
set_option maxRecDepth 100000 in
theorem shanil_c (x : List UInt8) (A : Option Addr) (n c : Nat) (w : World) (hs : Rep.u8.sl w (fun b => b < w.heap.size) A n c x) :
    Calls Try.prog 9 #[.slice A n c] w fun e w' => e = .returned (.bool true) ∧ Below w.heap.size w w' := by
  have hnc := hs.2.1
  have hcm := hs.2.2.1
  clear hs
  go_enter Try.func9, Try.ntmps9
  by_cases h : n ≤ 2000
  · have hI : ¬ (2000 : Int) < (n : Int) := by omega
    go_wp2_with fail
    refine Calls.mono (writenil_c _ _ _ _) ?_
    rintro e w1 ⟨rfl, rfl⟩
    go_wp2_with fail
    refine Calls.mono (sumnil_c _) ?_
    rintro e w1 ⟨rfl, hB1⟩
    have hz1 := hB1.size
    go_wp2_with (refine halt_store (ty := 46) rfl ?_)
    obtain ⟨Q, hQ⟩ : ∃ Q : Nat, Q = w1.heap.size := ⟨_, rfl⟩
    rw [← hQ]
    refine go_onO (wpList_storeR rfl _ _ _ rfl Q (bcells (shaL [])) rfl rfl (box_at2 hQ) (by rw [bcells_size, shaL_len]; kernel_rfl) (by rw [bcells_size, shaL_len]; rfl) (bcells_one _) ?_)
    intro w2 hq2 hg2 hs2
    have hB2 := (hB1.alloc hz1 _).grown hg2 (by simp; omega) (fun k e => by injection e; omega)
    simp only [World.size_alloc] at hs2
    have HQ : Row w2 Q (shaL []) := ⟨hq2, by omega⟩
    have kq := HQ.drew.conv
    have hBa := Below.drew (Below.alloc (Below.refl w2.heap.size w2) (Nat.le_refl _) (.cells #[] 5))
    have HQa := HQ.later hBa
    have kqa := HQa.conv
    have HSa : Hid (Rep.u8.sl ((w2.alloc (.cells #[] 5)).drew) (fun b => b < ((w2.alloc (.cells #[] 5)).drew).heap.size) (some ⟨w2.heap.size, 0, none⟩) 0 0 []) := ⟨rfl, Nat.le_refl _, by decide, fun h => absurd h (by decide)⟩
    have HBa := Lib.hid hBa
    have HB2 := Lib.hid hB2
    have HLL : Hid (([] : List UInt8).length ≤ 1000000000) := by show _ ≤ _; decide
    clear hB1 hz1 hQ hg2 hs2 hq2 hB2 hBa
    go_wp2
    go_region_with (first
      | (go_at_call 21; refine (refsum_b [] (some ⟨w2.heap.size, 0, none⟩) 0 0 _ HSa.out HLL.out).mono ?_; rintro e w4 ⟨A4, c4, rfl, hs4, hB4⟩; have k4 := bytes_conv hs4; have HQ4 := HQa.later hB4; have kq4 := HQ4.conv; have HB4 := Lib.hid hB4; clear hs4 hB4)
      | (go_at_call 19; refine (sawake_c _).mono ?_; rintro e w5 ⟨rfl, hB5⟩; have HB5 := Lib.hid hB5; clear hB5))
    all_goals
      go_wp2
      go_ret
      exact ⟨rfl, below_then (below_then (below_then HB2.out HBa.out) HB4.out) HB5.out⟩
  · have hI : (2000 : Int) < (n : Int) := by omega
    go_wp2_with fail
    refine Calls.mono (sawake_c _) ?_
    rintro e w1 ⟨rfl, hB⟩
    go_wp2_with fail
    go_ret
    exact ⟨rfl, hB⟩
end Go.Proofs.Ytkgkbaicjpgljaa
