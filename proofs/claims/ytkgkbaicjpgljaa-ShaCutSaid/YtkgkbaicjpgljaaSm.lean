/- The reference of the sums: bytes filled up. -/
import Derived.Test.YtkgkbaicjpgljaaSl
namespace Go.Proofs.Ytkgkbaicjpgljaa
open Go.RowKit Go.Lib
set_option linter.unusedVariables false

theorem sl_bcells {w : World} {g : Nat} {xs : List UInt8} {t : TypeId} (h : w.heap[g]? = some (.cells (bcells xs) t (0, 0))) (hm : xs.length ≤ 9223372036854775807) : Rep.u8.sl w (fun b => b = g) (some ⟨g, 0, none⟩) xs.length xs.length xs := by
  refine ⟨rfl, Nat.le_refl _, hm, fun hn => ⟨g, 0, rfl, rfl, fun i x hx => ⟨[.int .u8 (x.toNat : Int)], rfl, fun j u hu => ?_⟩⟩⟩
  have hi : i < xs.length := (List.getElem?_eq_some_iff.1 hx).1
  cases j with
  | zero =>
    simp at hu
    subst hu
    rw [show Rep.u8.size = 1 from rfl, Nat.mul_one, Nat.add_zero, Nat.zero_add]
    refine boxed h i _ ?_
    simp [bcells, hx]
  | succ j => simp at hu
def endL (al j : Nat) : List UInt8 := (List.range 16).map fun p => if 15 - p < j then UInt8.ofNat (8 * al / 2 ^ (8 * (15 - p))) else 0
theorem endL_set {al j : Nat} (h : j < 8) : (endL al j).set (15 - j) (UInt8.ofNat (8 * al / 2 ^ (8 * j))) = endL al (j + 1) := by
  obtain h | h | h | h | h | h | h | h : j = 0 ∨ j = 1 ∨ j = 2 ∨ j = 3 ∨ j = 4 ∨ j = 5 ∨ j = 6 ∨ j = 7 := by omega
  all_goals
    subst h
    rfl
theorem endL_zero (al : Nat) : endL al 0 = List.replicate 16 0 := rfl
theorem endL_full (al : Nat) : endL al 8 = lenB al := rfl
theorem endL_len (al j : Nat) : (endL al j).length = 16 := by simp [endL]
def zend : Array Value := bcells (List.replicate 16 0)

set_option maxHeartbeats 2000000 in
set_option maxRecDepth 100000 in
theorem filled_c (b : List UInt8) (A : Option Addr) (n c : Nat) (S : Nat → Prop) (w : World) (hs : Rep.u8.sl w S A n c b) (hS : ∀ x, S x → x < w.heap.size) (hn : n ≤ 1000000000) :
    Calls Try.prog 36 #[.slice A n c] w (OwnPost w (fillB b b.length)) := by
  have HN := Lib.hid hs.1
  have hmk : ∀ w, (Instr.makeSlice 25 (.int .i64 16) (.int .i64 16)).run Try.prog w = .ok (.slice (some ⟨w.heap.size, 0, none⟩) 16 16) (w.alloc (.cells zend 5)) := fun w => by kernel_rfl
  go_enter Try.func36, Try.ntmps36
  go_wp2_with (at_builtin; refine halt ?_)
  refine go_on (wpList_appF rfl flat_u8 TU _ _ rfl (by rfl) (own_lit (base := w.heap.size) (S := fun _ => False) _ [] rfl rfl (Nat.le_refl _) (by decide) rfl (fun _ h => h.elim) (fun i x h => by simp at h)) (by rfl) (Rep.sl_below hs (Below.alloc (Below.refl _ _) (Nat.le_refl _) _) hS) (by first | (with_reducible rfl) | omega | (simp; done) | (simp; omega) | (intro b hb; (try dsimp only at hb); simp; omega) | (intro b hb; (try dsimp only at hb); simp [Value.ownBlock]; omega) | (intro b hb; exact hb.elim) | (go_grown; done)) (by first | (with_reducible rfl) | omega | (simp; done) | (simp; omega) | (intro b hb; (try dsimp only at hb); simp; omega) | (intro b hb; (try dsimp only at hb); simp [Value.ownBlock]; omega) | (intro b hb; exact hb.elim) | (go_grown; done)) (by first | (with_reducible rfl) | omega | (simp; done) | (simp; omega) | (intro b hb; (try dsimp only at hb); simp; omega) | (intro b hb; (try dsimp only at hb); simp [Value.ownBlock]; omega) | (intro b hb; exact hb.elim) | (go_grown; done)) (fun _ h => h.elim) ?_)
  intro v2 w2 ho2 hg2 _
  rw [List.nil_append] at ho2
  have hB2 := ((Below.refl w.heap.size w).alloc (Nat.le_refl _) (.cells #[] 5)).grown hg2 (by simp) (fun k e => by simp [Value.ownBlock] at e; omega)
  have hz2 := hB2.size
  have hbn := HN.out
  have hbl : b.length ≤ 1000000000 := by omega
  clear hg2 hs hbn
  go_wp2_with (at_builtin; refine halt ?_)
  refine go_on (wpList_app1 rfl TU _ _ rfl (by rfl) (Rep.own_later ho2 (by first | (with_reducible rfl) | omega | (simp; done) | (simp; omega) | (intro b hb; (try dsimp only at hb); simp; omega) | (intro b hb; (try dsimp only at hb); simp [Value.ownBlock]; omega) | (intro b hb; exact hb.elim) | (go_grown; done))) [_] (128 : UInt8) rfl (cell_one_new _ _ _) rfl (by first | (with_reducible rfl) | omega | (simp; done) | (simp; omega) | (intro b hb; (try dsimp only at hb); simp; omega) | (intro b hb; (try dsimp only at hb); simp [Value.ownBlock]; omega) | (intro b hb; exact hb.elim) | (go_grown; done)) (by first | (with_reducible rfl) | omega | (simp; done) | (simp; omega) | (intro b hb; (try dsimp only at hb); simp; omega) | (intro b hb; (try dsimp only at hb); simp [Value.ownBlock]; omega) | (intro b hb; exact hb.elim) | (go_grown; done)) (by first | (with_reducible rfl) | omega | (simp; done) | (simp; omega) | (intro b hb; (try dsimp only at hb); simp; omega) | (intro b hb; (try dsimp only at hb); simp [Value.ownBlock]; omega) | (intro b hb; exact hb.elim) | (go_grown; done)) (by first | (with_reducible rfl) | omega | (simp; done) | (simp; omega) | (intro b hb; (try dsimp only at hb); simp; omega) | (intro b hb; (try dsimp only at hb); simp [Value.ownBlock]; omega) | (intro b hb; exact hb.elim) | (go_grown; done)) ?_)
  intro v3 w3 ho3 hg3 _
  have ho2' := Rep.own_later (w' := w2.alloc (.cells #[.int .u8 128] 5)) ho2 ((Below.refl _ _).alloc (Nat.le_refl _) _)
  have hB3 := below_app (hB2.alloc hz2 _) ho2' hg3 (Nat.le_refl _)
  have hz3 := hB3.size
  clear hg3 ho2 ho2' hB2
  have HL : Hid ((b ++ [(128 : UInt8)]).length = b.length + 1) := by show _ = _; simp
  have HFB : Hid (fillB b b.length = (b ++ [128]) ++ List.replicate (zfill (b.length + 1)) 0 ++ lenB b.length) := rfl
  have hZ := zfill_lt (b.length + 1)
  generalize b ++ [(128 : UInt8)] = buf at *
  go_wp2
  go_loopg [3] (zfill (b.length + 1)) (fun k v wr => ∃ (j : Nat), j + k = zfill (b.length + 1) ∧ Rep.u8.own 5 wr w.heap.size (fun _ => False) v (buf ++ List.replicate j 0) ∧ Below w.heap.size w wr)
  case atStart => exact ⟨0, by omega, by simpa using ho3, hB3⟩
  case round =>
    obtain ⟨j, hjk, hO, hB⟩ := hrel
    obtain ⟨Ax, cx, hrr, _⟩ := Rep.own_sl hO
    subst hrr
    have hz := hB.size
    have HLJ : Hid ((buf ++ List.replicate j (0 : UInt8)).length = b.length + 1 + j) := by show _ = _; rw [List.length_append, HL.out, List.length_replicate]
    have hlb := Nat.le_of_eq HLJ.out
    by_cases hj : j < zfill (b.length + 1)
    · obtain ⟨k', rfl⟩ : ∃ k', gk = k' + 1 := ⟨gk - 1, by omega⟩
      have ht : (((buf ++ List.replicate j (0 : UInt8)).length : Int) % 128 != 112) = true := by
        have := mt (zfill_test (Nat.le_of_lt hj)).1 (by omega)
        rw [bne_iff_ne, HLJ.out]
        omega
      have HS : Hid (buf ++ List.replicate (j + 1) (0 : UInt8) = (buf ++ List.replicate j 0) ++ [0]) := by show _ = _; rw [List.append_assoc, List.replicate_succ']
      generalize buf ++ List.replicate j (0 : UInt8) = L at *
      go_wp2_with (at_builtin; refine halt ?_)
      refine go_on (wpList_app1 rfl TU _ _ rfl (by rfl) (Rep.own_later hO (by first | (with_reducible rfl) | omega | (simp; done) | (simp; omega) | (intro b hb; (try dsimp only at hb); simp; omega) | (intro b hb; (try dsimp only at hb); simp [Value.ownBlock]; omega) | (intro b hb; exact hb.elim) | (go_grown; done))) [_] (0 : UInt8) rfl (cell_one_new _ _ _) rfl (by omega) (by omega) (by simp; omega) (fun _ h => h.elim) ?_)
      intro v5 w5 ho5 hg5 _
      have hO' := Rep.own_later (w' := wr.alloc (.cells #[.int .u8 0] 5)) hO ((Below.refl _ _).alloc (Nat.le_refl _) _)
      have hB5 := below_app (hB.alloc hz _) hO' hg5 (Nat.le_refl _)
      rw [← HS.out] at ho5
      clear hO hO' hg5 hB
      go_wp2
      go_roundg k'
      case measure => omega
      case rel => exact ⟨j + 1, by omega, ho5, hB5⟩
    · have hje : j = zfill (b.length + 1) := by omega
      have ht : (((buf ++ List.replicate j (0 : UInt8)).length : Int) % 128 != 112) = false := by
        have := (zfill_test (Nat.le_of_eq hje)).2 hje
        rw [bne_eq_false_iff_eq, HLJ.out]
        omega
      have HM : Hid (fillB b b.length = (buf ++ List.replicate j 0) ++ lenB b.length) := by show _ = _; rw [hje, HFB.out]
      clear hje
      generalize buf ++ List.replicate j (0 : UInt8) = L at *
      go_wp2
      clear ht hmk
      obtain ⟨E, hE⟩ : ∃ E : Nat, E = wr.heap.size := ⟨_, rfl⟩
      have hE4 : (wr.alloc (.cells zend 5)).heap[E]? = some (.cells (bcells (endL n 0)) 5 (0, 0)) := box_at2 hE
      have hO4 := Rep.own_later (w' := wr.alloc (.cells zend 5)) hO ((Below.refl _ _).alloc (Nat.le_refl _) _)
      have hB4 := hB.alloc hz (.cells zend 5)
      have hne : some E ≠ (Value.slice Ax L.length cx).ownBlock := fun e => by have := (Rep.own_lt hO _ e.symm).2; omega
      have hEz : w.heap.size ≤ E := by omega
      have hEs : E + 1 ≤ wr.heap.size + 1 := by omega
      rw [← hE]
      clear hO hB
      clear hE
      go_loopw [4, 6] (fun nv ix wq => ∃ (j : Nat), j ≤ 8 ∧ ix = .int .i64 (15 - (j : Int)) ∧ nv = .int .i64 ((8 * n / 2 ^ (8 * j) : Nat) : Int) ∧ wq.heap[E]? = some (.cells (bcells (endL n j)) 5 (0, 0)) ∧ Rep.u8.own 5 wq w.heap.size (fun _ => False) (.slice Ax L.length cx) L ∧ Below w.heap.size w wq ∧ E + 1 ≤ wq.heap.size) (fun _ ix _ => (intOf ix).toNat)
      case atStart => exact ⟨0, by omega, rfl, by simp, hE4, hO4, hB4, by simp; omega⟩
      case round =>
        obtain ⟨j, hj8, rfl, rfl, hE5, hO5, hB5, hz5⟩ := hrel
        have hNb : 8 * n / 2 ^ (8 * j) ≤ 8000000000 := Nat.le_trans (Nat.div_le_self _ _) (by omega)
        by_cases hlt : j < 8
        · have cE := bcell_at hE5 (i := 15 - j) (by rw [endL_len]; omega)
          have fE := boxed_frozen hE5 (15 - j)
          have HST : Hid ((endL n j).set (15 - j) (UInt8.ofNat (8 * n / 2 ^ (8 * j))) = endL n (j + 1)) := endL_set hlt
          have HDV : Hid (8 * n / 2 ^ (8 * j) / 256 = 8 * n / 2 ^ (8 * (j + 1))) := by
            show _ = _
            rw [Nat.div_div_eq_div_mul, show 8 * (j + 1) = 8 * j + 8 by omega, Nat.pow_add]
          have hT : ((8 * n / 2 ^ (8 * j) : Nat) : Int) % 256 = ((UInt8.ofNat (8 * n / 2 ^ (8 * j))).toNat : Int) := by
            rw [UInt8.toNat_ofNat']
            omega
          generalize 8 * n / 2 ^ (8 * j) = N at *
          generalize UInt8.ofNat N = y at *
          generalize (endL n j).getD (15 - j) 0 = q at *
          have hi1 : (15 - (j : Int)).toNat = 15 - j := by omega
          have hi2 : (15 : Int) - (j : Int) < 16 := by omega
          have hi3 : (j : Int) ≤ 15 := by omega
          go_wp2
          go_roundw
          case rel => exact ⟨j + 1, by omega, by go_num, by rw [← HDV.out]; go_num, by rw [← HST.out]; exact bcell_set hE5 (15 - j) y, Rep.own_setFar (p := ⟨E, 15 - j, none⟩) hO5 hne, hB5.setCell (by simp only; omega) _, by simp; omega⟩
          case measure => simp [intOf]; omega
        · obtain rfl : j = 8 := by omega
          have hsl := sl_bcells hE5 (by rw [endL_len]; omega)
          rw [endL_full] at hsl
          have hl16 : (lenB n).length = 16 := rfl
          rw [hl16] at hsl
          go_wp2_with (at_builtin; refine halt ?_)
          refine go_on (wpList_appF rfl flat_u8 TU _ _ rfl (by rfl) hO5 (by rfl) hsl (by omega) (by omega) (by omega) (fun _ h => h.elim) ?_)
          intro v7 w7 ho7 hg7 _
          have hB7 := below_app hB5 hO5 hg7 (Nat.le_refl _)
          rw [← HN.out, ← HM.out] at ho7
          clear hO5 hB5 hg7 hsl hE5
          go_wp2
          go_ret
          exact ⟨_, rfl, ho7, hB7⟩
end Go.Proofs.Ytkgkbaicjpgljaa
