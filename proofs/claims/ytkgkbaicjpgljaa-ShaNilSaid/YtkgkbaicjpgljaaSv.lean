/- The law of the pieces. -/
import Derived.Test.YtkgkbaicjpgljaaSu
namespace Go.Proofs.Ytkgkbaicjpgljaa
open Go.RowKit Go.Lib
set_option linter.unusedVariables false

theorem hash_later {w w' : World} {lo g : Nat} {m : List UInt8} (h : HashOf w lo g m) (hB : Below w.heap.size w w') : HashOf w' lo g m := by
  obtain ⟨r, h1, h2⟩ := h
  exact ⟨r, box_below h1 hB (Array.getElem?_eq_some_iff.1 h1).1, Rep.own_later h2 hB⟩
theorem hash_far {w : World} {lo g P : Nat} {m : List UInt8} (h : HashOf w lo g m) (hg : g ≠ P) (hl : P < lo) (j : Nat) (u : Value) : HashOf (w.setCell ⟨P, j, none⟩ u) lo g m := by
  obtain ⟨r, h1, h2⟩ := h
  exact ⟨r, box_far h1 hg _, Rep.own_setFar h2 (fun e => by have := (Rep.own_lt h2 P e.symm).1; omega)⟩
theorem hash_other {w w' : World} {B lo g P : Nat} {m : List UInt8} (h : HashOf w lo g m) (hB : Below w.heap.size w w') (hP : w.heap.size ≤ P) :
    ∀ r, w'.heap[g]? = some (.cells (hashCells (eatF st0 m).1 ks0 r m.length) 76 (0, 0)) → some P ≠ r.ownBlock := by
  obtain ⟨r, h1, h2⟩ := h
  intro r' hr'
  have e1 := hash_rest (eatF_len _ _ st0_len) hr'
  rw [hash_rest (eatF_len _ _ st0_len) (box_below h1 hB (Array.getElem?_eq_some_iff.1 h1).1)] at e1
  injection e1 with e1
  rw [← e1]
  intro e
  have := (Rep.own_lt h2 P e.symm).2
  omega
/-- A row of the call's own, its block told. -/
theorem own_block {w : World} {base Z : Nat} {v : Value} {x : List UInt8} (h : Rep.u8.own 5 w base (fun _ => False) v x) (hZ : base ≤ Z) (hZ2 : Z < w.heap.size) :
    ∃ (A : Option Addr) (c P : Nat) (X : Obj), v = .slice A x.length c ∧ base ≤ P ∧ w.heap[P]? = some X ∧ (0 < x.length → A = some ⟨P, 0, none⟩ ∧ ∃ cur, X = .cells cur 5 (0, 0) ∧ x.length ≤ cur.size) := by
  obtain ⟨cells, ⟨_, hc⟩, _⟩ := h
  rcases hc with ⟨rfl, h0⟩ | ⟨P, cap, cur, rfl, hb, hh, hnc, _, hs, _⟩
  · exact ⟨none, 0, Z, _, by rw [h0], hZ, Array.getElem?_eq_getElem hZ2, fun h => absurd h (by omega)⟩
  · exact ⟨_, cap, P, _, rfl, hb, hh, fun _ => ⟨rfl, cur, rfl, by rw [hs, show Rep.u8.size = 1 from rfl]; omega⟩⟩

attribute [local irreducible] shaL

set_option maxHeartbeats 2000000 in
set_option maxRecDepth 100000 in
theorem shapieces_c (l : List (List UInt8)) (A : Option Addr) (n c : Nat) (w : World) (hs : Rep.u8.slice.sl w (fun b => b < w.heap.size) A n c l) :
    Calls Try.prog 8 #[.slice A n c] w fun e w' => e = .returned (.bool true) ∧ Below w.heap.size w w' := by
  have HN := Lib.hid hs.1
  have hnc := hs.2.1
  have hcm := hs.2.2.1
  go_enter Try.func8, Try.ntmps8
  go_wp2_with fail
  refine Calls.mono (sgreat_c l _ _ _ _ hs) ?_
  rintro e w1 ⟨r, rfl, rfl, hr⟩
  cases r
  · have hl := (hr rfl).2
    have HLA : Hid (∀ k, (l.take k).flatten.length ≤ 2000) := fun k => by
      have h1 : l.flatten.length = (l.take k).flatten.length + (l.drop k).flatten.length := by
        conv => lhs; rw [← List.take_append_drop k l, List.flatten_append, List.length_append]
      omega
    clear hr hl
    by_cases h12 : n ≤ 12
    · have hd : decide ((12 : Int) < (n : Int)) = false := decide_eq_false (by omega)
      go_wp2_with fail
      refine Calls.mono (new_c _) ?_
      rintro e w1 ⟨rfl, hh1, hB1⟩
      have hh1' : HashOf w1 w.heap.size w.heap.size [] := hh1
      clear hh1 hd
      go_wp2
      go_loopw [4] (fun ix wr => ∃ (k : Nat), k ≤ n ∧ ix = .int .i64 (k : Nat) ∧ HashOf wr w.heap.size w.heap.size (l.take k).flatten ∧ Below w.heap.size w wr) (fun ix _ => n - (intOf ix).toNat)
      case atStart => exact ⟨0, by omega, rfl, hh1', hB1⟩
      case round =>
        obtain ⟨k, hk, rfl, hh, hB⟩ := hrel
        have hz := hB.size
        by_cases hlt : k < n
        · obtain ⟨b', o', x, es, hA, hb', hx, ⟨A2, n2, c2, rfl, hsx⟩, hcx⟩ := Rep.sl_at (Rep.sl_below hs hB (fun _ h => h)) hlt
          have hcx0 := hcx 0 _ rfl
          rw [show (Rep.u8.slice).size = 1 from rfl, Nat.mul_one, Nat.add_zero] at hcx0
          have HF : Hid ((l.take (k + 1)).flatten = (l.take k).flatten ++ x) := by
            show _ = _
            rw [List.take_add_one, hx, List.flatten_append]
            simp
          have hl1 := HLA.out (k + 1)
          have hgw : w.heap.size < wr.heap.size := by obtain ⟨r, h1, _⟩ := hh; exact (Array.getElem?_eq_some_iff.1 h1).1
          have HS0 := Lib.hid hs
          subst hA
          clear hcx hx hs
          generalize (l.take k).flatten = m at *
          generalize hm1 : (l.take (k + 1)).flatten = m1 at *
          have HM := Lib.hid hm1
          have HML : Hid (m.length + x.length ≤ 2000) := by show _ ≤ _; rw [← List.length_append, ← HF.out]; exact hl1
          have hml := HML.out
          have hxn : n2 = x.length := hsx.1.symm
          subst hxn
          clear hm1
          have hcy := (Below.alloc (Below.refl wr.heap.size wr) (Nat.le_refl _) (.cells #[] 5)).cell (p := ⟨b', o' + k, none⟩) (by simp only; omega)
          rw [hcx0] at hcy
          go_wp2_with (at_builtin; refine halt ?_)
          refine go_on (wpList_appF rfl flat_u8 TU _ _ rfl (by rfl) (own_lit (base := wr.heap.size) (S := fun _ => False) _ [] rfl rfl (Nat.le_refl _) (by decide) rfl (fun _ h => h.elim) (fun i x h => by simp at h)) (by rfl) (Rep.sl_below (B := wr.heap.size) hsx (Below.alloc (Below.refl _ _) (Nat.le_refl _) _) (fun b hb => by omega)) (by simp; omega) (by simp; omega) (by first | (with_reducible rfl) | omega | (simp; done) | (simp; omega) | (intro b hb; (try dsimp only at hb); simp; omega) | (intro b hb; (try dsimp only at hb); simp [Value.ownBlock]; omega) | (intro b hb; exact hb.elim) | (go_grown; done)) (fun _ h => h.elim) ?_)
          intro v2 w2 ho2 hg2 _
          rw [List.nil_append] at ho2
          have hBn := ((Below.refl wr.heap.size wr).alloc (Nat.le_refl _) (.cells #[] 5)).grown hg2 (by simp) (fun k e => by simp [Value.ownBlock] at e; omega)
          have hz2 : wr.heap.size < w2.heap.size := by have := hg2.size; simp at this; omega
          have hlt2 := Rep.own_lt ho2
          obtain ⟨A3, c3, P, X, rfl, hPb, hX, hXc⟩ := own_block ho2 (Nat.le_refl _) hz2
          obtain ⟨A3', c3', e3, hsl3⟩ := Rep.own_sl ho2
          injection e3 with e3 _ e3c
          subst e3 e3c
          have hsl3' := Rep.sl_more (S' := fun b => wr.heap.size ≤ b ∧ b < w2.heap.size) hsl3 (fun b hb => by
            rcases hb with hb | hb
            · exact hb.elim
            · exact hlt2 _ hb)
          have hPw : P < w2.heap.size := (Array.getElem?_eq_some_iff.1 hX).1
          have hh2 := hash_later hh hBn
          have hBw := hB.trans (hBn.mono hz)
          have HOT := Lib.hid (hash_other (B := 0) hh hBn hPb)
          clear hg2 ho2 hsl3 hsx hlt2 hcx0 hcy hh hB hBn
          go_wp2_with fail
          refine Calls.mono (writes_p P X m x w.heap.size w.heap.size A3 x.length c3 _ _ hh2 (Nat.le_refl _) hsl3' (fun b hb => by omega) (fun b hb => hb.2) (by omega) hX (by omega) HOT.out) ?_
          rintro e w3 ⟨rfl, hh3, hB3, hX3⟩
          have hB3' := hBw.trans hB3
          have hz3 := hB3.size
          obtain ⟨W2, hW2⟩ : ∃ W2 : Nat, W2 = w2.heap.size := ⟨_, rfl⟩
          rw [← hW2] at hh3 hz3 hPw
          have hXc' : 0 < x.length → ∃ cur, X = .cells cur 5 (0, 0) ∧ x.length ≤ cur.size := fun h => (hXc h).2
          have HA3 : Hid (0 < x.length → A3 = some ⟨P, 0, none⟩) := fun h => (hXc h).1
          have HXC := Lib.hid hXc'
          clear hXc hXc' hX hh2 hsl3' hBw HOT hB3 hW2
          go_wp2
          go_loopw [6] (fun jx wq => ∃ (j : Nat) (X' : Obj), j ≤ x.length ∧ jx = .int .i64 (j : Nat) ∧ wq.heap[P]? = some X' ∧ Hid (0 < x.length → ∃ cur, X' = .cells cur 5 (0, 0) ∧ x.length ≤ cur.size) ∧ HashOf wq W2 w.heap.size (m ++ x) ∧ Below w.heap.size w wq ∧ W2 ≤ wq.heap.size) (fun jx _ => x.length - (intOf jx).toNat)
          case atStart => exact ⟨0, X, by omega, rfl, hX3, HXC, hh3, hB3', hz3⟩
          case round =>
            obtain ⟨j, X', hj, rfl, hX4, HX4, hh4, hB4, hz4⟩ := hrel
            by_cases hjl : j < x.length
            · obtain ⟨cur, rfl, hcur⟩ := HX4.out (by omega)
              have hA3 := HA3.out (by omega)
              subst hA3
              have cj := boxed hX4 j cur[j] (by simp)
              have fj := boxed_frozen hX4 j
              generalize cur[j] = q at *
              go_wp2
              go_roundw
              case rel =>
                refine ⟨j + 1, _, by omega, by go_num, box_set hX4 _, fun _ => ⟨_, rfl, by rw [Array.size_setIfInBounds]; exact hcur⟩, hash_far hh4 (by omega) hPw j _, hB4.setCell (by simp only; omega) _, by simp; omega⟩
              case measure => simp [intOf] <;> omega
            · have hjI : ¬ (j : Int) < (x.length : Int) := by omega
              go_wp2_with fail
              rw [← HF.out] at hh4
              refine Calls.mono (sums_m m1 _ _ _ hh4 (by omega)) ?_
              rintro e w5 ⟨rfl, hB5⟩
              have hz5 := hB5.size
              have HH := Lib.hid hh4
              go_wp2_with (refine halt_store (ty := 46) rfl ?_)
              obtain ⟨Q, hQ⟩ : ∃ Q : Nat, Q = w5.heap.size := ⟨_, rfl⟩
              rw [← hQ]
              refine go_onO (wpList_storeR rfl _ _ _ rfl Q (bcells (shaL m1)) rfl rfl (box_at2 hQ) (by rw [bcells_size, shaL_len]; kernel_rfl) (by rw [bcells_size, shaL_len]; rfl) (bcells_one _) ?_)
              intro w6 hq6 hg6 hs6
              have hB6 := (hB5.alloc hz5 _).grown hg6 (by simp; omega) (fun k e => by injection e; omega)
              simp only [World.size_alloc] at hs6
              have HQ : Row w6 Q (shaL m1) := ⟨hq6, by omega⟩
              have HB6 := Lib.hid hB6
              have HBW := Lib.hid hB4
              have hBB := below_then hB4 hB6
              have HJ2 : Hid (Rep.u8.slice.sl w6.drew (fun b => b < w6.drew.heap.size) (some ⟨b', o', none⟩) (k + 1) c (l.take (k + 1))) := Rep.sl_take (Rep.sl_more (Rep.sl_below HS0.out (Below.drew hBB) (fun _ h => h)) (fun b hb => Nat.lt_of_lt_of_le hb hBB.size)) (by omega)
              have HLL : Hid (m1.length ≤ 1000000000) := by show _ ≤ _; omega
              have kq := HQ.drew.conv
              have d1 : ((k : Int) + 1).toNat = k + 1 := by omega
              have d2 : IntKind.i64.wrap ((k : Int) + 1) = (k : Int) + 1 := IntWalk.i64_in _ (by omega)
              have d3 : (k : Int) + 1 ≤ (c : Int) := by omega
              have d4 : (0 : Int) ≤ (k : Int) + 1 := by omega
              clear hB5 hz5 hh4 hQ hg6 hs6 hq6 hB6 hB4 hBB hX4 HX4
              go_wp2
              go_region_with (first
                | (go_at_call 22; refine (join_m (l.take (k + 1)) m1 (some ⟨b', o', none⟩) (k + 1) c _ HM HJ2.out HLL.out).mono ?_; rintro e w7 ⟨A7, c7, rfl, hs7, hB7⟩; have HS7 := Lib.hid hs7; have HQ7 := HQ.drew.later hB7; have kq7 := HQ7.conv; have HB7 := Lib.hid hB7; clear hs7 hB7)
                | (go_at_call 21; refine (refsum_b m1 A7 m1.length c7 _ HS7.out HLL.out).mono ?_; rintro e w8 ⟨A8, c8, rfl, hs8, hB8⟩; have k8 := bytes_conv hs8; have HQ8 := HQ7.later hB8; have kq8 := HQ8.conv; have HB8 := Lib.hid hB8; clear hs8 hB8))
              all_goals
                have HE := Lib.hid (below_then (below_then HB6.out.drew HB7.out) HB8.out)
                go_wp2
                go_roundw
                case rel => exact ⟨k + 1, by omega, by go_num, by rw [HM.out]; exact hash_base (hash_later HH.out HE.out) (by omega), below_then HBW.out HE.out⟩
                case measure => simp [intOf] <;> omega
        · have hlI : ¬ (k : Int) < (n : Int) := by omega
          have HB := Lib.hid hB
          clear hh hB
          go_wp2_with fail
          refine Calls.mono (sawake_c _) ?_
          rintro e w9 ⟨rfl, hB9⟩
          go_wp2_with fail
          go_ret
          exact ⟨rfl, below_then HB.out hB9⟩
    · have hd : decide ((12 : Int) < (n : Int)) = true := decide_eq_true (by omega)
      go_wp2_with fail
      refine Calls.mono (sawake_c _) ?_
      rintro e w1 ⟨rfl, hB⟩
      go_wp2_with fail
      go_ret
      exact ⟨rfl, hB⟩
  · clear hr
    go_wp2_with fail
    refine Calls.mono (sawake_c _) ?_
    rintro e w1 ⟨rfl, hB⟩
    go_wp2_with fail
    go_ret
    exact ⟨rfl, hB⟩
end Go.Proofs.Ytkgkbaicjpgljaa
