/- Bytes written into a hash. -/
import Derived.Test.YtkgkbaicjpgljaaSh
namespace Go.Proofs.Ytkgkbaicjpgljaa
open Go.RowKit Go.Lib
set_option linter.unusedVariables false

/-- What is taken block by block. -/
def eat : Nat → List UInt64 → List UInt8 → List UInt64 × List UInt8
  | 0, st, b => (st, b)
  | n + 1, st, b => if 128 ≤ b.length then eat n (compress ks0 st (b.take 128)) (b.drop 128) else (st, b)

theorem hash_size {st : List UInt64} {r : Value} {a : Nat} (h : st.length = 8) : (hashCells st ks0 r a).toList = (st ++ ks0).map (fun x => Value.int .u64 (x.toNat : Int)) ++ [r, .int .u64 (a : Int)] := rfl
theorem hash_rest {w : World} {g : Nat} {st : List UInt64} {r : Value} {a : Nat} {t : TypeId} (hst : st.length = 8) (h : w.heap[g]? = some (.cells (hashCells st ks0 r a) t (0, 0))) : w.cell? ⟨g, 88, none⟩ = some r := by
  refine boxed h 88 r ?_
  rw [hash_size hst, List.getElem?_append_right (by simp [hst, ks0_len])]
  simp [hst, ks0_len]
theorem hash_all {w : World} {g : Nat} {st : List UInt64} {r : Value} {a : Nat} {t : TypeId} (hst : st.length = 8) (h : w.heap[g]? = some (.cells (hashCells st ks0 r a) t (0, 0))) : w.cell? ⟨g, 89, none⟩ = some (.int .u64 (a : Int)) := by
  refine boxed h 89 _ ?_
  rw [hash_size hst, List.getElem?_append_right (by simp [hst, ks0_len])]
  simp [hst, ks0_len]
theorem hash_setRest {w : World} {g : Nat} {st : List UInt64} {r : Value} {a : Nat} {t : TypeId} (hst : st.length = 8) (h : w.heap[g]? = some (.cells (hashCells st ks0 r a) t (0, 0))) (r' : Value) :
    (w.setCell ⟨g, 88, none⟩ r').heap[g]? = some (.cells (hashCells st ks0 r' a) t (0, 0)) := by
  rw [box_set h]
  congr 2
  apply Array.ext'
  simp only [Array.toList_setIfInBounds, hash_size hst]
  rw [List.set_append_right _ _ (by simp [hst, ks0_len])]
  simp [hst, ks0_len]
theorem hash_setAll {w : World} {g : Nat} {st : List UInt64} {r : Value} {a : Nat} {t : TypeId} (hst : st.length = 8) (h : w.heap[g]? = some (.cells (hashCells st ks0 r a) t (0, 0))) (a' : Nat) :
    (w.setCell ⟨g, 89, none⟩ (.int .u64 (a' : Int))).heap[g]? = some (.cells (hashCells st ks0 r a') t (0, 0)) := by
  rw [box_set h]
  congr 2
  apply Array.ext'
  simp only [Array.toList_setIfInBounds, hash_size hst]
  rw [List.set_append_right _ _ (by simp [hst, ks0_len])]
  simp [hst, ks0_len]
theorem eat_len : ∀ (n : Nat) (st : List UInt64) (b : List UInt8), st.length = 8 → (eat n st b).1.length = 8
  | 0, st, b, h => h
  | n + 1, st, b, h => by
    unfold eat
    split
    · exact eat_len n _ _ (by unfold compress; rw [addsW_len (by rw [roundsW_len h]; exact h)]; exact h)
    · exact h
theorem compress_len {st : List UInt64} {b : List UInt8} (h : st.length = 8) : (compress ks0 st b).length = 8 := by
  unfold compress
  rw [addsW_len (by rw [roundsW_len h]; exact h)]
  exact h

def WritePost (w : World) (base g : Nat) (st : List UInt64) (rest bs : List UInt8) (al : Nat) (e : Ending) (w' : World) : Prop :=
  e = .returned (.tuple #[]) ∧ HashAt w' w.heap.size g (eat (rest ++ bs).length st (rest ++ bs)).1 (eat (rest ++ bs).length st (rest ++ bs)).2 (al + bs.length) ∧ Below base w w'

set_option maxHeartbeats 2000000 in
set_option maxRecDepth 100000 in
theorem write_c (st : List UInt64) (rest bs : List UInt8) (al g base : Nat) (A : Option Addr) (n c : Nat) (S : Nat → Prop) (w : World) (hst : st.length = 8) (hh : HashAt w base g st rest al) (hbg : base ≤ g)
    (hs : Rep.u8.sl w S A n c bs) (hS : ∀ b, S b → b ≠ g) (hS2 : ∀ b, S b → b < w.heap.size) (hln : al + n ≤ 1000000000) (hrl : rest.length + n ≤ 1000000000) :
    Calls Try.prog 24 #[.pointer (some ⟨g, 0, none⟩), .slice A n c] w (WritePost w base g st rest bs al) := by
  obtain ⟨r, hb, ho⟩ := hh
  have hgl : g < w.heap.size := (Array.getElem?_eq_some_iff.1 hb).1
  have c88 := hash_rest hst hb
  have c89 := hash_all hst hb
  have f88 := boxed_frozen hb 88
  have f89 := boxed_frozen hb 89
  have HN := Lib.hid hs.1
  have HST := Lib.hid hst
  clear hst
  go_enter Try.func24, Try.ntmps24
  go_wp2_with (at_builtin; refine halt ?_)
  have e1 : (al : Int) + (n : Int) = ((al + n : Nat) : Int) := by omega
  rw [e1]
  have hb1 := hash_setAll HST.out hb (al + n)
  have ho1 := Rep.own_setFar (p := ⟨g, 89, none⟩) (u := .int .u64 ((al + n : Nat) : Int)) ho (own_blk ho hb (by decide))
  have hs1 := Rep.sl_setFar (g := g) (j := 89) (u := .int .u64 ((al + n : Nat) : Int)) hs hS
  have hB1 : Below base w (w.setCell ⟨g, 89, none⟩ (.int .u64 ((al + n : Nat) : Int))) := (Below.refl _ _).setCell (by simp only; omega) _
  have hz1 : (w.setCell ⟨g, 89, none⟩ (.int .u64 ((al + n : Nat) : Int))).heap.size = w.heap.size := by simp
  generalize w.setCell ⟨g, 89, none⟩ (.int .u64 ((al + n : Nat) : Int)) = w1 at *
  clear c88 c89 f88 f89 e1 hb ho hs
  refine go_on (wpList_appF rfl flat_u8 TU _ _ rfl (by rfl) ho1 (by rfl) hs1 (by omega) (by omega) (by omega) (fun _ h => h.elim) ?_)
  intro v2 w2 ho2 hg2 _
  have hb2 := box_app hb1 ho1 (by decide) hg2
  have hB2 := below_app hB1 ho1 hg2 (by omega)
  have hz2 := hg2.size
  rw [hz1] at hz2
  have hlt2 := Rep.own_lt ho2
  have hne2 := own_blk ho2 hb2 (by decide)
  obtain ⟨A2, c2, hv2, hsl2⟩ := Rep.own_sl ho2
  have hsl2' := Rep.sl_more (S' := fun b => base ≤ b ∧ b < w2.heap.size ∧ b ≠ g) hsl2 (fun b hb => by
    rcases hb with hb | hb
    · exact hb.elim
    · exact ⟨(hlt2 _ hb).1, (hlt2 _ hb).2, fun e => hne2 (by rw [hb, e])⟩)
  subst hv2
  have c88 := hash_rest HST.out hb2
  have f88 := boxed_frozen hb2 88
  have HE : Hid ((rest ++ bs).length = rest.length + n) := by show _ = _; rw [List.length_append, HN.out]
  generalize hm0 : rest ++ bs = m0 at *
  have HM0 := Lib.hid hm0
  clear hm0
  clear hsl2 hlt2 hne2 hg2 ho2 hb1 ho1 hs1 hB1 hz1
  have hb3 := hash_setRest HST.out hb2 (.slice A2 m0.length c2)
  have hsl3 := Rep.sl_setFar (g := g) (j := 88) (u := .slice A2 m0.length c2) hsl2' (fun b hb => hb.2.2)
  have hB3 := Below.setCell (p := ⟨g, 88, none⟩) hB2 (by simp only; omega) (.slice A2 m0.length c2)
  go_wp2
  go_loopg [] m0.length (fun k wr => ∃ (st1 : List UInt64) (buf : List UInt8) (A1 : Option Addr) (n1 c1 : Nat), st1.length = 8 ∧ wr.heap[g]? = some (.cells (hashCells st1 ks0 (.slice A1 n1 c1) (al + n)) 76 (0, 0)) ∧
    Rep.u8.sl wr (fun b => base ≤ b ∧ b < wr.heap.size ∧ b ≠ g) A1 n1 c1 buf ∧ Hid (eat m0.length st m0 = eat k st1 buf) ∧ buf.length ≤ k ∧ Below base w wr ∧ w.heap.size ≤ wr.heap.size ∧ n1 ≤ 1000000000)
  case atStart => exact ⟨st, m0, A2, _, c2, HST.out, hb3, by simpa using hsl3, rfl, Nat.le_refl _, hB3, by simpa using hz2, by rw [HE.out]; omega⟩
  case round =>
    obtain ⟨st1, buf, A1, n1, c1, hl1, hb4, hsl4, HK, hbk, hB4, hz4, hn1⟩ := hrel
    have HL1 := Lib.hid hl1
    have HN1 := Lib.hid hsl4.1
    have d88 := hash_rest HL1.out hb4
    have g88 := boxed_frozen hb4 88
    have hnc1 := hsl4.2.1
    have hcm1 := hsl4.2.2.1
    have hgw : g < wr.heap.size := (Array.getElem?_eq_some_iff.1 hb4).1
    clear hl1
    by_cases h128 : 128 ≤ n1
    · obtain ⟨B1, o1, rfl, hB1S, _⟩ := hsl4.2.2.2 (by omega)
      by_cases hcc : c1 = 128
      · subst hcc
        obtain rfl : n1 = 128 := by omega
        obtain ⟨k', rfl⟩ : ∃ k', gk = k' + 1 := ⟨gk - 1, by have := HN1.out; omega⟩
        have HK2 : Hid (eat m0.length st m0 = eat k' (compress ks0 st1 (buf.take 128)) (buf.drop 128)) := by
          show _ = _
          rw [HK.out, eat, if_pos (by rw [HN1.out]; exact h128)]
        have htk := Rep.sl_take hsl4 h128
        have hcut := Rep.sl_cut hsl4 h128
        rw [show Rep.u8.size = 1 from rfl, Nat.mul_one] at hcut
        rw [if_pos rfl, Nat.sub_self] at hcut
        have hcl : (compress ks0 st1 (buf.take 128)).length = 8 := compress_len HL1.out
        have hdl : (buf.drop 128).length ≤ k' := by rw [List.length_drop]; omega
        have HC := Lib.hid hcut
        have HCL := Lib.hid hcl
        clear hcut hcl
        go_wp2_with fail
        refine Calls.mono (block_t st1 ks0 (.slice (some ⟨B1, o1, none⟩) 128 128) (al + n) g (buf.take 128) (some ⟨B1, o1, none⟩) 128 128 _ _ HL1.out ks0_len hb4 htk (Nat.le_refl _) (fun b hb => hb.2.1)) ?_
        rintro e w5 ⟨rfl, hb5, hg5⟩
        have hz5 := hg5.size
        have hcut5 := Rep.sl_grown HC.out hg5 (fun b hb => ⟨hb.2.1, fun e => hb.2.2 (by injection e)⟩)
        have hcut6 := Rep.sl_more (S' := fun b => base ≤ b ∧ b < w5.heap.size ∧ b ≠ g) hcut5 (fun b hb => ⟨hb.1, by have := hb.2.1; omega, hb.2.2⟩)
        have HC6 := Lib.hid hcut6
        have hB5 := hB4.grown hg5 (by omega) (fun k e => by injection e; omega)
        generalize compress ks0 st1 (buf.take 128) = st2 at *
        have e88 := hash_rest HCL.out hb5
        have i88 := boxed_frozen hb5 88
        clear hcut5 hcut6 hsl4 htk hg5 HC d88 g88 hb4
        go_wp2
        go_roundg k'
        case measure => omega
        case rel => exact ⟨st2, buf.drop 128, _, _, _, HCL.out, hash_setRest HCL.out hb5 _, by simpa using Rep.sl_setFar (g := g) (j := 88) HC6.out (fun b hb => hb.2.2), HK2, hdl, hB5.setCell (by simp only; omega) _, by simp; omega, by omega⟩
      · obtain ⟨k', rfl⟩ : ∃ k', gk = k' + 1 := ⟨gk - 1, by have := HN1.out; omega⟩
        have HK2 : Hid (eat m0.length st m0 = eat k' (compress ks0 st1 (buf.take 128)) (buf.drop 128)) := by
          show _ = _
          rw [HK.out, eat, if_pos (by rw [HN1.out]; exact h128)]
        have htk := Rep.sl_take hsl4 h128
        have hcut := Rep.sl_cut hsl4 h128
        rw [show Rep.u8.size = 1 from rfl, Nat.mul_one] at hcut
        rw [if_neg hcc] at hcut; simp only [Option.map_some, Addr.add_lit] at hcut
        have hcl : (compress ks0 st1 (buf.take 128)).length = 8 := compress_len HL1.out
        have hdl : (buf.drop 128).length ≤ k' := by rw [List.length_drop]; omega
        have HC := Lib.hid hcut
        have HCL := Lib.hid hcl
        clear hcut hcl
        go_wp2_with fail
        refine Calls.mono (block_t st1 ks0 (.slice (some ⟨B1, o1, none⟩) n1 c1) (al + n) g (buf.take 128) (some ⟨B1, o1, none⟩) 128 c1 _ _ HL1.out ks0_len hb4 htk (Nat.le_refl _) (fun b hb => hb.2.1)) ?_
        rintro e w5 ⟨rfl, hb5, hg5⟩
        have hz5 := hg5.size
        have hcut5 := Rep.sl_grown HC.out hg5 (fun b hb => ⟨hb.2.1, fun e => hb.2.2 (by injection e)⟩)
        have hcut6 := Rep.sl_more (S' := fun b => base ≤ b ∧ b < w5.heap.size ∧ b ≠ g) hcut5 (fun b hb => ⟨hb.1, by have := hb.2.1; omega, hb.2.2⟩)
        have HC6 := Lib.hid hcut6
        have hB5 := hB4.grown hg5 (by omega) (fun k e => by injection e; omega)
        generalize compress ks0 st1 (buf.take 128) = st2 at *
        have e88 := hash_rest HCL.out hb5
        have i88 := boxed_frozen hb5 88
        clear hcut5 hcut6 hsl4 htk hg5 HC d88 g88 hb4
        go_wp2
        go_roundg k'
        case measure => omega
        case rel => exact ⟨st2, buf.drop 128, _, _, _, HCL.out, hash_setRest HCL.out hb5 _, by simpa using Rep.sl_setFar (g := g) (j := 88) HC6.out (fun b hb => hb.2.2), HK2, hdl, hB5.setCell (by simp only; omega) _, by simp; omega, by omega⟩
    · have HEND : Hid (eat m0.length st m0 = (st1, buf)) := by
        show _ = _
        rw [HK.out]
        cases gk with
        | zero => rfl
        | succ k => rw [eat, if_neg (by rw [HN1.out]; exact h128)]
      go_wp2_with fail
      refine Calls.mono (clone_c buf A1 n1 c1 _ _ hsl4 hn1 (fun b hb => hb.2.1)) ?_
      rintro e w5 ⟨v5, rfl, ho5, hB5⟩
      obtain ⟨A5, c5, hv5, _⟩ := Rep.own_sl ho5
      subst hv5
      have hb5 := box_below hb4 hB5 hgw
      have e88 := hash_rest HL1.out hb5
      have i88 := boxed_frozen hb5 88
      have hz5 := hB5.size
      have hB6 := hB4.trans (hB5.mono (by omega))
      have hb6 := hash_setRest HL1.out hb5 (.slice A5 buf.length c5)
      have ho6 := Rep.own_setFar (p := ⟨g, 88, none⟩) (u := .slice A5 buf.length c5) ho5 (own_blk ho5 hb5 (by decide))
      have hB7 := Below.setCell (p := ⟨g, 88, none⟩) hB6 (by simp only; omega) (.slice A5 buf.length c5)
      clear hsl4 d88 g88 hb4
      go_wp2
      go_end0
      refine ⟨rfl, ?_, hB7⟩
      rw [HM0.out, HEND.out, HN.out]
      exact ⟨_, hb6, Rep.own_base ho6 (fun k hk => by have := (Rep.own_lt ho5 k hk).1; omega)⟩
end Go.Proofs.Ytkgkbaicjpgljaa
