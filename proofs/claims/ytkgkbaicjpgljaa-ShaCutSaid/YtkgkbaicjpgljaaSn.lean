/- The reference of the sums: the sum. -/
import Derived.Test.YtkgkbaicjpgljaaSm
namespace Go.Proofs.Ytkgkbaicjpgljaa
open Go.RowKit Go.Lib
set_option linter.unusedVariables false

theorem mul256 (x : UInt64) : Op.intArith .mul .u64 256 (x.toNat : Int) = pure (.int .u64 ((sl x 8).toNat : Int)) := by
  show pure (Value.int .u64 (IntKind.u64.wrap (256 * (x.toNat : Int)))) = pure (.int .u64 ((UInt64.ofNat (x.toNat * 2 ^ 8)).toNat : Int))
  rw [show 256 * (x.toNat : Int) = ((x.toNat * 2 ^ 8 : Nat) : Int) by omega, wrap_word]
theorem ob_bv (c : UInt8) (i : Nat) (hi : 8 ≤ i) : (ob c).toBitVec.getLsbD i = false := by
  have h : (ob c).toBitVec.toNat < 2 ^ 8 := by
    show (UInt64.ofNat c.toNat).toNat < 2 ^ 8
    rw [UInt64.toNat_ofNat']
    have := c.toNat_lt
    omega
  rw [BitVec.getLsbD, Nat.testBit_lt_two_pow]
  exact Nat.lt_of_lt_of_le h (Nat.pow_le_pow_right (by decide) hi)
theorem wa_ob (x : UInt64) (c : UInt8) : wa (sl x 8) (ob c) = wo (sl x 8) (ob c) := by
  show sl x 8 + ob c = sl x 8 ||| ob c
  apply UInt64.toBitVec_inj.1
  rw [UInt64.toBitVec_add, UInt64.toBitVec_or]
  refine BitVec.add_eq_or_of_and_eq_zero _ _ ?_
  apply BitVec.eq_of_getLsbD_eq
  intro i hi
  rw [BitVec.getLsbD_and, sl_bv x 8 (by decide), BitVec.getLsbD_shiftLeft, BitVec.getLsbD_zero]
  by_cases h : i < 8
  · simp [h]
  · rw [ob_bv c i (by omega)]
    simp
theorem choose_xor (e f g : UInt64) : wx (wn e f) (wn (wc e) g) = chooseW e f g := by
  show (e &&& f) ^^^ (~~~e &&& g) = (e &&& f) ||| (~~~e &&& g)
  apply UInt64.toBitVec_inj.1
  apply BitVec.eq_of_getLsbD_eq
  intro i hi
  simp only [UInt64.toBitVec_xor, UInt64.toBitVec_or, UInt64.toBitVec_and, UInt64.toBitVec_not, BitVec.getLsbD_xor, BitVec.getLsbD_or, BitVec.getLsbD_and, BitVec.getLsbD_not, hi, decide_true, Bool.true_and]
  cases e.toBitVec.getLsbD i <;> cases f.toBitVec.getLsbD i <;> cases g.toBitVec.getLsbD i <;> rfl
theorem major_xor (a b c : UInt64) : wx (wx (wn a b) (wn a c)) (wn b c) = majorW a b c := by
  show ((a &&& b) ^^^ (a &&& c)) ^^^ (b &&& c) = ((a &&& b) ||| (a &&& c)) ||| (b &&& c)
  apply UInt64.toBitVec_inj.1
  apply BitVec.eq_of_getLsbD_eq
  intro i hi
  simp only [UInt64.toBitVec_xor, UInt64.toBitVec_or, UInt64.toBitVec_and, BitVec.getLsbD_xor, BitVec.getLsbD_or, BitVec.getLsbD_and]
  cases a.toBitVec.getLsbD i <;> cases b.toBitVec.getLsbD i <;> cases c.toBitVec.getLsbD i <;> rfl
theorem ref_round_cells (a b c d e f g h k w : UInt64) : wcells (unat (roundW [a, b, c, d, e, f, g, h] k w)) =
    #[.int .u64 ((wa (wa (wa (wa (wa h (wx (wx (rotr e 14) (rotr e 18)) (rotr e 41))) (wx (wn e f) (wn (wc e) g))) k) w) (wa (wx (wx (rotr a 28) (rotr a 34)) (rotr a 39)) (wx (wx (wn a b) (wn a c)) (wn b c)))).toNat : Int),
      .int .u64 (a.toNat : Int), .int .u64 (b.toNat : Int), .int .u64 (c.toNat : Int),
      .int .u64 ((wa d (wa (wa (wa (wa h (wx (wx (rotr e 14) (rotr e 18)) (rotr e 41))) (wx (wn e f) (wn (wc e) g))) k) w)).toNat : Int), .int .u64 (e.toNat : Int), .int .u64 (f.toNat : Int), .int .u64 (g.toNat : Int)] := by
  rw [choose_xor, major_xor]
  rfl
theorem next_comm (u v x y : UInt64) : wa (wa (wa (small1 y) v) (small0 x)) u = wa (wa (wa u (small0 x)) v) (small1 y) := by
  show small1 y + v + small0 x + u = u + small0 x + v + small1 y
  ac_rfl

def runB (all : List UInt8) : Nat → List UInt64
  | 0 => st0
  | k + 1 => compress ks0 (runB all k) ((all.drop (128 * k)).take 128)
theorem runB_len (all : List UInt8) : ∀ k, (runB all k).length = 8
  | 0 => st0_len
  | k + 1 => compress_len (runB_len all k)
def refS (b : List UInt8) : List UInt8 := digest (runB (fillB b b.length) ((fillB b b.length).length / 128))
theorem fill_mod (b : List UInt8) (al : Nat) : (fillB b al).length % 128 = 0 ∧ (fillB b al).length ≤ b.length + 200 := by
  unfold fillB
  have h1 : (lenB al).length = 16 := rfl
  have h2 := (zfill_test (n := b.length + 1) (Nat.le_refl _)).2 rfl
  have h3 := zfill_lt (b.length + 1)
  simp only [List.length_append, List.length_replicate, List.length_singleton, h1]
  omega
theorem unat_first : unat st0 = firstL := by rw [unat_st0, first_roots]
theorem unat_const : unat ks0 = constL := by rw [unat_ks0, const_roots]

theorem refturn_any (x : UInt64) (n : Int) (hn : n ∈ [(1 : Int), 8, 14, 18, 19, 28, 34, 39, 41, 61]) (w : World) :
    Calls Try.prog 37 #[.int .u64 (x.toNat : Int), .int .u64 n] w fun e w' => e = .returned (.int .u64 ((rotr x n.toNat).toNat : Int)) ∧ w' = w := by
  simp only [List.mem_cons, List.not_mem_nil, or_false] at hn
  rcases hn with rfl | rfl | rfl | rfl | rfl | rfl | rfl | rfl | rfl | rfl
  · exact (refturn_1 x w).mono fun _ _ ⟨a, b⟩ => ⟨a, b.symm⟩
  · exact (refturn_8 x w).mono fun _ _ ⟨a, b⟩ => ⟨a, b.symm⟩
  · exact (refturn_14 x w).mono fun _ _ ⟨a, b⟩ => ⟨a, b.symm⟩
  · exact (refturn_18 x w).mono fun _ _ ⟨a, b⟩ => ⟨a, b.symm⟩
  · exact (refturn_19 x w).mono fun _ _ ⟨a, b⟩ => ⟨a, b.symm⟩
  · exact (refturn_28 x w).mono fun _ _ ⟨a, b⟩ => ⟨a, b.symm⟩
  · exact (refturn_34 x w).mono fun _ _ ⟨a, b⟩ => ⟨a, b.symm⟩
  · exact (refturn_39 x w).mono fun _ _ ⟨a, b⟩ => ⟨a, b.symm⟩
  · exact (refturn_41 x w).mono fun _ _ ⟨a, b⟩ => ⟨a, b.symm⟩
  · exact (refturn_61 x w).mono fun _ _ ⟨a, b⟩ => ⟨a, b.symm⟩

attribute [local go_sem] wrap_ob bits_not bits_and' bits_or' wrap_add' wrap_byteW
attribute [local go_sem ↓] mul256
set_option maxHeartbeats 4000000 in
set_option maxRecDepth 100000 in
theorem refsum_c (b : List UInt8) (A : Option Addr) (n c : Nat) (S : Nat → Prop) (w : World) (hs : Rep.u8.sl w S A n c b) (hS : ∀ x, S x → x < w.heap.size) (hn : n ≤ 1000000000) :
    Calls Try.prog 21 #[.slice A n c] w (OwnPost w (refS b)) := by
  have z8 := (zero_of_info (P := Try.prog) (t := 68) (v := .agg (wcells (zeros 8))) (n := 8) (by kernel_rfl)).1
  have z80 := (zero_of_info (P := Try.prog) (t := 70) (v := .agg (wcells (zeros 80))) (n := 80) (by kernel_rfl)).1
  have HMK : Hid (∀ w, (Instr.makeSlice 72 (.int .i64 80) (.int .i64 80)).run Try.prog w = .ok (.slice (some ⟨w.heap.size, 0, none⟩) 80 80) (w.alloc (.cells (wcells (zeros 80)) 67))) := fun w => by kernel_rfl
  have HF := Lib.hid (fill_mod b b.length)
  have hbl := hs.1
  have hFl : (fillB b b.length).length ≤ 1000000200 := by have := HF.out.2; omega
  have HRS : Hid (refS b = digest (runB (fillB b b.length) ((fillB b b.length).length / 128))) := rfl
  clear hbl
  go_enter Try.func21, Try.ntmps21
  go_wp2_with fail
  refine Calls.mono (reffirst_c _) ?_
  rintro e w1 ⟨rfl, hB1⟩
  go_wp2_with (refine halt_store (ty := 68) rfl ?_)
  refine go_onO (wpList_storeW rfl _ _ _ rfl _ firstL rfl rfl rfl (box_at2 rfl) (by rw [wcells_size, zeros_len]; rfl) (by kernel_rfl) ?_)
  intro w2 hs2 hg2 hz2
  have hB2 := (hB1.alloc hB1.size _).grown hg2 (by simp; have := hB1.size; omega) (fun k e => by have := hB1.size; injection e; omega)
  simp only [World.size_alloc] at hz2
  have hzb1 := hB1.size
  go_wp2_with fail
  refine Calls.mono (refconst_c _) ?_
  rintro e w3 ⟨rfl, hB3⟩
  have hs3 := box_below hs2 hB3 (by omega)
  have hzb3 := hB3.size
  have hB3' := hB2.trans (hB3.mono (by omega))
  go_wp2_with (refine halt_store (ty := 70) rfl ?_)
  refine go_onO (wpList_storeW rfl _ _ _ rfl _ constL rfl rfl rfl (box_at2 rfl) (by rw [wcells_size, zeros_len]; rfl) (by kernel_rfl) ?_)
  intro w4 hk4 hg4 hz4
  have hs4 := box_grown (box_alloc hs3 _) hg4 (by intro e; injection e; omega)
  have hB4 := (hB3'.alloc (by omega) _).grown hg4 (by simp; omega) (fun k e => by injection e; omega)
  simp only [World.size_alloc] at hz4
  rw [← unat_first] at hs4
  rw [← unat_const] at hk4
  obtain ⟨SB, hSB⟩ : ∃ SB : Nat, SB = w1.heap.size := ⟨_, rfl⟩
  obtain ⟨KB, hKB⟩ : ∃ KB : Nat, KB = w3.heap.size := ⟨_, rfl⟩
  rw [← hSB] at hs4 ⊢
  rw [← hKB] at hk4 ⊢
  have hSBz : w.heap.size ≤ SB := by omega
  have hSK : SB < KB := by omega
  have hKz : KB + 1 ≤ w4.heap.size := by omega
  have HZ8 := Lib.hid z8
  clear hSB hKB hz4 hz2 hg4 hg2 hB3' hB3 hs3 hB2 hB1 hs2 z8 z80 hzb1 hzb3
  go_wp2_with fail
  refine Calls.mono (filled_c b A n c S _ (Rep.sl_below hs hB4 hS) (fun x hx => by have := hS x hx; omega) hn) ?_
  rintro e w5 ⟨v5, rfl, ho5, hB5⟩
  have hz5 := hB5.size
  have hs5 := box_below hs4 hB5 (by omega)
  have hk5 := box_below hk4 hB5 (by omega)
  have hB5' := hB4.trans (hB5.mono (by omega))
  obtain ⟨A5, c5, hv5, hsl5⟩ := Rep.own_sl ho5
  subst hv5
  have hlt5 := Rep.own_lt ho5
  have hsl6 := Rep.sl_more (S' := fun b => w4.heap.size ≤ b ∧ b < w5.heap.size) hsl5 (fun b hb => by
    rcases hb with hb | hb
    · exact hb.elim
    · exact hlt5 _ hb)
  generalize fillB b b.length = all at *
  clear hsl5 hlt5 ho5 hB4 hB5 hs4 hk4 hs
  have HN128 : Hid (all.length % 128 = 0) := HF.out.1
  have hlc := hsl6.2.1
  have hcm := hsl6.2.2.1
  clear HF
  go_wp2
  go_loopw [6] (fun ax wr => ∃ (k : Nat), 128 * k ≤ all.length ∧ ax = .int .i64 (128 * (k : Int)) ∧ wr.heap[SB]? = some (.cells (wcells (unat (runB all k))) 68 (0, 0)) ∧ wr.heap[KB]? = some (.cells (wcells (unat ks0)) 70 (0, 0)) ∧
    Rep.u8.sl wr (fun b => w4.heap.size ≤ b ∧ b < w5.heap.size) A5 all.length c5 all ∧ Below w.heap.size w wr ∧ w5.heap.size ≤ wr.heap.size) (fun ax _ => all.length - (intOf ax).toNat)
  case atStart => exact ⟨0, by omega, rfl, hs5, hk5, hsl6, hB5', Nat.le_refl _⟩
  case round =>
    obtain ⟨k, hk, rfl, hS6, hK6, hA6, hB6, hz6⟩ := hrel
    by_cases hlt : 128 * k < all.length
    · have hlt2 : 128 * k + 128 ≤ all.length := by have := HN128.out; omega
      obtain ⟨AB, ao, rfl, hABs, hbyte⟩ := byte_cells hA6 (by omega)
      have HBY := Lib.hid hbyte
      have hABl : AB < wr.heap.size := by omega
      have hABk : KB < AB := by omega
      clear hbyte
      have HBS : Hid (∀ i, i < 128 → ((all.drop (128 * k)).take 128).getD i 0 = all.getD (128 * k + i) 0) := fun i hi => by
        simp only [List.getD_eq_getElem?_getD]
        rw [List.getElem?_take, if_pos hi, List.getElem?_drop]
      have HBL : Hid (((all.drop (128 * k)).take 128).length = 128) := by show _ = _; rw [List.length_take, List.length_drop]; omega
      have HRB : Hid (runB all (k + 1) = compress ks0 (runB all k) ((all.drop (128 * k)).take 128)) := rfl
      have HR8 : Hid ((runB all k).length = 8) := runB_len all k
      generalize (all.drop (128 * k)).take 128 = bs at *
      generalize runB all k = st at *
      obtain ⟨wo, rfl⟩ : ∃ wo : World, wo = wr := ⟨_, rfl⟩
      have hmk := HMK.out wo
      have hltI : 128 * (k : Int) < (all.length : Int) := by omega
      go_wp2
      clear hmk
      obtain ⟨WB, hWB⟩ : ∃ WB : Nat, WB = wo.heap.size := ⟨_, rfl⟩
      have hw7 : (wo.alloc (.cells (wcells (zeros 80)) 67)).heap[WB]? = some (.cells (wcells (unat (padU 80 (wordsOf bs 0)))) 67 (0, 0)) := by rw [wordsOf, padU_nil, zerosU_nat]; exact box_at2 hWB
      have hB7 : Below WB wo (wo.alloc (.cells (wcells (zeros 80)) 67)) := by rw [hWB]; exact (Below.refl _ _).alloc (Nat.le_refl _) _
      have hWz : wo.heap.size ≤ WB := by omega
      have hWz2 : WB ≤ wo.heap.size := by omega
      rw [← hWB]
      clear hWB
      go_loopw [8] (fun tx wq => ∃ (t : Nat), t ≤ 16 ∧ tx = .int .i64 (t : Nat) ∧ wq.heap[WB]? = some (.cells (wcells (unat (padU 80 (wordsOf bs t)))) 67 (0, 0)) ∧ Below WB wo wq ∧ WB + 1 ≤ wq.heap.size) (fun tx _ => 16 - (intOf tx).toNat)
      case atStart => exact ⟨0, by omega, rfl, hw7, hB7, by simp; omega⟩
      case round =>
        obtain ⟨t, ht, rfl, hw8, hB8, hz8⟩ := hrel
        have HL : Hid ((padU 80 (wordsOf bs t)).length = 80) := padU_len (by rw [wordsOf_len]; omega)
        by_cases h16 : t < 16
        · have ht16 : (t : Int) < 16 := by omega
          go_wp2
          obtain ⟨wp, rfl⟩ : ∃ wp : World, wp = wr := ⟨_, rfl⟩
          go_loopw [9] (fun ix wq => ∃ (i : Nat), i ≤ 8 ∧ ix = .int .i64 (i : Nat) ∧ wq.heap[WB]? = some (.cells (wcells (unat ((padU 80 (wordsOf bs t)).set t (word8 0 ((bs.drop (8 * t)).take i))))) 67 (0, 0)) ∧ Below WB wo wq ∧ WB + 1 ≤ wq.heap.size) (fun ix _ => 8 - (intOf ix).toNat)
          case atStart => exact ⟨0, by omega, rfl, by rw [show word8 0 ((bs.drop (8 * t)).take 0) = 0 from rfl, padU_set0 (wordsOf_len bs t) (by omega)]; exact hw8, hB8, hz8⟩
          case round =>
            obtain ⟨i, hi, rfl, hw9, hB9, hz9⟩ := hrel
            by_cases hi8 : i < 8
            · have cb := hB9.cell (p := ⟨AB, ao + (128 * k + 8 * t + i), none⟩) (by simp only; omega)
              rw [HBY.out (128 * k + 8 * t + i) (by omega)] at cb
              have cw := ucell_at hw9 (i := t) (by rw [List.length_set, HL.out]; omega)
              rw [set_getD (by rw [HL.out]; omega)] at cw
              have fw := boxed_frozen hw9 t
              have HX : Hid (wa (sl (word8 0 ((bs.drop (8 * t)).take i)) 8) (ob (all.getD (128 * k + 8 * t + i) 0)) = word8 0 ((bs.drop (8 * t)).take (i + 1))) := by
                show _ = _
                rw [wa_ob, List.take_add_one, show (bs.drop (8 * t))[i]? = some (bs.getD (8 * t + i) 0) by rw [List.getElem?_drop]; simp [List.getD, show 8 * t + i < bs.length by rw [HBL.out]; omega], HBS.out (8 * t + i) (by omega), ← Nat.add_assoc]
                exact (word8_snoc _ _ _).symm
              generalize word8 0 ((bs.drop (8 * t)).take i) = x at *
              generalize all.getD (128 * k + 8 * t + i) 0 = y at *
              have W1 : IntKind.i64.wrap (8 * (t : Int)) = 8 * (t : Int) := IntWalk.i64_in _ (by omega)
              have W2 : IntKind.i64.wrap (128 * (k : Int) + 8 * (t : Int)) = 128 * (k : Int) + 8 * (t : Int) := IntWalk.i64_in _ (by omega)
              have W3 : IntKind.i64.wrap (128 * (k : Int) + 8 * (t : Int) + (i : Int)) = 128 * (k : Int) + 8 * (t : Int) + (i : Int) := IntWalk.i64_in _ (by omega)
              have d1 : (128 * (k : Int) + 8 * (t : Int) + (i : Int)).toNat = 128 * k + 8 * t + i := by omega
              have d2 : 128 * (k : Int) + 8 * (t : Int) + (i : Int) < (all.length : Int) := by omega
              have d3 : (0 : Int) ≤ 128 * (k : Int) + 8 * (t : Int) + (i : Int) := by omega
              have d4 : (t : Int) < 80 := by omega
              go_wp2
              refine wp_region_still_tail 19 (by kernel_rfl) (by kernel_rfl) ?_
              change wpStill _ _ (World.drew _) _ _ _
              simp only [List.take_succ_cons, List.take_zero, List.drop_succ_cons, List.drop_zero]
              repeat (first | still_step | fail)
              refine wpStill_nil ?_
              change wpList _ _ _ _ _ (World.drew _)
              go_wp2
              clear W1 W2 W3 d1 d2 d3 d4 cb cw
              go_roundw
              case rel =>
                refine ⟨i + 1, by omega, by go_num, ?_, Below.setCell hB9.drew (by simp only; omega) _, by simp; omega⟩
                have := ucell_set (w := wr.drew) hw9 t (wa (sl x 8) (ob y))
                rw [List.set_set] at this
                rw [← HX.out]
                exact this
              case measure => simp [intOf] <;> omega
            · obtain rfl : i = 8 := by omega
              go_wp2
              go_roundw
              case rel =>
                refine ⟨t + 1, by omega, by go_num, ?_, hB9, hz9⟩
                have hw := padU_set (n := 80) (ps := wordsOf bs t) (p := word8 0 ((bs.drop (8 * t)).take 8)) (by rw [wordsOf_len]; omega)
                rw [wordsOf_len] at hw
                rw [wordsOf, if_pos h16, ← hw]
                exact hw9
              case measure => simp [intOf] <;> omega
        · have et : t = 16 := by omega
          rw [et] at hw8
          clear et HL
          have hn16 : ¬ (t : Int) < 16 := by omega
          go_wp2
          obtain ⟨wp, rfl⟩ : ∃ wp : World, wp = wr := ⟨_, rfl⟩
          go_loopw [10] (fun tx wq => ∃ (t : Nat), 16 ≤ t ∧ t ≤ 80 ∧ tx = .int .i64 (t : Nat) ∧ wq.heap[WB]? = some (.cells (wcells (unat (padU 80 (wordsOf bs t)))) 67 (0, 0)) ∧ Below WB wo wq ∧ WB + 1 ≤ wq.heap.size) (fun tx _ => 80 - (intOf tx).toNat)
          case atStart => exact ⟨16, by omega, by omega, rfl, hw8, hB8, hz8⟩
          case round =>
            obtain ⟨t, ht1, ht, rfl, hw9, hB9, hz9⟩ := hrel
            have HL : Hid ((padU 80 (wordsOf bs t)).length = 80) := padU_len (by rw [wordsOf_len]; exact ht)
            by_cases h80 : t < 80
            · have c15 := ucell_at hw9 (i := t - 15) (by rw [HL.out]; omega)
              have c2 := ucell_at hw9 (i := t - 2) (by rw [HL.out]; omega)
              have c16 := ucell_at hw9 (i := t - 16) (by rw [HL.out]; omega)
              have c7 := ucell_at hw9 (i := t - 7) (by rw [HL.out]; omega)
              have c0 := ucell_at hw9 (i := t) (by rw [HL.out]; omega)
              have f0 := boxed_frozen hw9 t
              rw [padU_get (by rw [wordsOf_len]; omega)] at c15 c2 c16 c7
              have hw := fun p => padU_set (n := 80) (ps := wordsOf bs t) (p := p) (by rw [wordsOf_len]; exact h80)
              rw [wordsOf_len] at hw
              have HW := Lib.hid hw
              clear hw
              have HN : Hid (wordsOf bs (t + 1) = wordsOf bs t ++ [wa (wa (wa (wx (wx (rotr ((wordsOf bs t).getD (t - 2) 0) 19) (rotr ((wordsOf bs t).getD (t - 2) 0) 61)) (sr ((wordsOf bs t).getD (t - 2) 0) 6)) ((wordsOf bs t).getD (t - 7) 0)) (wx (wx (rotr ((wordsOf bs t).getD (t - 15) 0) 1) (rotr ((wordsOf bs t).getD (t - 15) 0) 8)) (sr ((wordsOf bs t).getD (t - 15) 0) 7))) ((wordsOf bs t).getD (t - 16) 0)]) := by
                show _ = _
                rw [wordsOf, if_neg (by omega), nextW, ← next_comm]
                rfl
              generalize (wordsOf bs t).getD (t - 15) 0 = x at *
              generalize (wordsOf bs t).getD (t - 2) 0 = y at *
              generalize (wordsOf bs t).getD (t - 16) 0 = u at *
              generalize (wordsOf bs t).getD (t - 7) 0 = v at *
              generalize (padU 80 (wordsOf bs t)).getD t 0 = q at *
              have d15 : ((t : Int) - 15).toNat = t - 15 := by omega
              have d2 : ((t : Int) - 2).toNat = t - 2 := by omega
              have d16 : ((t : Int) - 16).toNat = t - 16 := by omega
              have d7 : ((t : Int) - 7).toNat = t - 7 := by omega
              have b15 : (t : Int) - 15 < 80 := by omega
              have b2 : (t : Int) - 2 < 80 := by omega
              have b16 : (t : Int) - 16 < 80 := by omega
              have b7 : (t : Int) - 7 < 80 := by omega
              have p15 : (15 : Int) ≤ (t : Int) := by omega
              have p2 : (2 : Int) ≤ (t : Int) := by omega
              have p16 : (16 : Int) ≤ (t : Int) := by omega
              have p7 : (7 : Int) ≤ (t : Int) := by omega
              have W15 : IntKind.i64.wrap ((t : Int) - 15) = (t : Int) - 15 := IntWalk.i64_in _ (by omega)
              have W2 : IntKind.i64.wrap ((t : Int) - 2) = (t : Int) - 2 := IntWalk.i64_in _ (by omega)
              have W16 : IntKind.i64.wrap ((t : Int) - 16) = (t : Int) - 16 := IntWalk.i64_in _ (by omega)
              have W7 : IntKind.i64.wrap ((t : Int) - 7) = (t : Int) - 7 := IntWalk.i64_in _ (by omega)
              go_wp2
              refine wp_region_still_tail 32 (by kernel_rfl) (by kernel_rfl) ?_
              change wpStill _ _ (World.drew _) _ _ _
              simp only [List.take_succ_cons, List.take_zero, List.drop_succ_cons, List.drop_zero]
              repeat (first | still_step | still_call (refturn_any _ _ (by decide) _))
              refine wpStill_nil ?_
              change wpList _ _ _ _ _ (World.drew _)
              go_wp2
              clear d15 d2 d16 d7 b15 b2 b16 b7 W15 W2 W16 W7 c15 c2 c16 c7
              go_roundw
              case rel =>
                refine ⟨t + 1, by omega, by omega, by go_num, ?_, Below.setCell hB9.drew (by simp only; omega) _, by simp; omega⟩
                rw [HN.out, ← HW.out]
                exact ucell_set (w := wr.drew) hw9 t _
              case measure => simp [intOf] <;> omega
            · have et : t = 80 := by omega
              rw [et, padU_full (wordsOf_len bs 80)] at hw9
              clear et HL
              have hn80 : ¬ (t : Int) < 80 := by omega
              have HWL : Hid ((wordsOf bs 80).length = 80) := wordsOf_len bs 80
              have HCP : Hid (compress ks0 st bs = addsW st (roundsW ks0 (wordsOf bs 80) st 80)) := rfl
              generalize wordsOf bs 80 = ws at *
              have hS9 := box_below hS6 hB9 (by omega)
              have hK9 := box_below hK6 hB9 (by omega)
              have hA9 := Rep.sl_below hA6 hB9 (fun b hb => by omega)
              have hB9' := hB6.trans (hB9.mono (by omega))
              have z8 := HZ8.out
              go_wp2_with (refine halt_load (ty := 68) rfl ?_)
              refine go_onO (wpList_loadW rfl _ _ rfl SB rfl (unat st) (by rw [unat_len, HR8.out]) hS9 Try.underlying68 (by kernel_rfl) ?_)
              go_wp2_with (refine halt_store (ty := 68) rfl ?_)
              obtain ⟨VB, hVB⟩ : ∃ VB : Nat, VB = wr.heap.size := ⟨_, rfl⟩
              rw [← hVB]
              refine go_onO (wpList_storeW rfl _ _ _ rfl VB (unat st) rfl rfl (by rw [unat_len, HR8.out]) (box_at2 hVB) (by rw [wcells_size, zeros_len]) (by kernel_rfl) ?_)
              intro wv hv1 hgv hzv
              have hVW : WB < VB := by omega
              have hSv := box_grown (box_alloc hS9 _) hgv (by intro e; injection e; omega)
              have hKv := box_grown (box_alloc hK9 _) hgv (by intro e; injection e; omega)
              have hWv := box_grown (box_alloc hw9 _) hgv (by intro e; injection e; omega)
              have hAv := Rep.sl_grown (Rep.sl_below hA9 (Below.alloc (Below.refl wr.heap.size wr) (Nat.le_refl _) (.cells (wcells (zeros 8)) 68)) (fun b hb => by omega)) hgv (fun b hb => ⟨by simp; omega, by intro e; injection e; omega⟩)
              have hBv := (hB9'.alloc (by omega) (.cells (wcells (zeros 8)) 68)).grown hgv (by simp; omega) (fun k e => by injection e; omega)
              simp only [World.size_alloc] at hzv
              have hzv' : VB + 1 ≤ wv.heap.size := by omega
              clear hVB hzv hgv hS9 hK9 hA9 hB9' z8 hw9 hB9 hS6 hK6 hA6 hB6
              go_wp2
              go_loopw [14] (fun tx wq => ∃ (j : Nat), j ≤ 80 ∧ tx = .int .i64 (j : Nat) ∧ wq.heap[SB]? = some (.cells (wcells (unat st)) 68 (0, 0)) ∧ wq.heap[KB]? = some (.cells (wcells (unat ks0)) 70 (0, 0)) ∧ wq.heap[WB]? = some (.cells (wcells (unat ws)) 67 (0, 0)) ∧
                wq.heap[VB]? = some (.cells (wcells (unat (roundsW ks0 ws st j))) 68 (0, 0)) ∧ Rep.u8.sl wq (fun b => w4.heap.size ≤ b ∧ b < w5.heap.size) (some ⟨AB, ao, none⟩) all.length c5 all ∧ Below w.heap.size w wq ∧ VB + 1 ≤ wq.heap.size) (fun tx _ => 80 - (intOf tx).toNat)
              case atStart => exact ⟨0, by omega, rfl, hSv, hKv, hWv, hv1, hAv, hBv, hzv'⟩
              case round =>
                obtain ⟨j, hj, rfl, hSw, hKw, hWw, hVw, hAw, hBw, hzw⟩ := hrel
                by_cases hj80 : j < 80
                · have cw := ucell_at hWw (i := j) (by rw [HWL.out]; exact hj80)
                  have ck := ucell_at hKw (i := j) (by rw [ks0_len]; exact hj80)
                  have HRN : Hid (roundsW ks0 ws st (j + 1) = roundW (roundsW ks0 ws st j) (ks0.getD j 0) (ws.getD j 0)) := rfl
                  generalize ks0.getD j 0 = kj at *
                  generalize ws.getD j 0 = wj at *
                  have hl8 := roundsW_len (ks := ks0) (ws := ws) HR8.out j
                  generalize roundsW ks0 ws st j = s at *
                  match s, hl8 with
                  | [a0, a1, a2, a3, a4, a5, a6, a7], _ =>
                    have s0 : wr.cell? ⟨VB, 0, none⟩ = some (.int .u64 (a0.toNat : Int)) := ucell_at hVw (i := 0) (by simp)
                    have s1 : wr.cell? ⟨VB, 1, none⟩ = some (.int .u64 (a1.toNat : Int)) := ucell_at hVw (i := 1) (by simp)
                    have s2 : wr.cell? ⟨VB, 2, none⟩ = some (.int .u64 (a2.toNat : Int)) := ucell_at hVw (i := 2) (by simp)
                    have s3 : wr.cell? ⟨VB, 3, none⟩ = some (.int .u64 (a3.toNat : Int)) := ucell_at hVw (i := 3) (by simp)
                    have s4 : wr.cell? ⟨VB, 4, none⟩ = some (.int .u64 (a4.toNat : Int)) := ucell_at hVw (i := 4) (by simp)
                    have s5 : wr.cell? ⟨VB, 5, none⟩ = some (.int .u64 (a5.toNat : Int)) := ucell_at hVw (i := 5) (by simp)
                    have s6 : wr.cell? ⟨VB, 6, none⟩ = some (.int .u64 (a6.toNat : Int)) := ucell_at hVw (i := 6) (by simp)
                    have s7 : wr.cell? ⟨VB, 7, none⟩ = some (.int .u64 (a7.toNat : Int)) := ucell_at hVw (i := 7) (by simp)
                    go_wp2
                    go_quiet ((go_at_call 37; exact Calls.quiet_of_same (refturn_any _ _ (by decide) _)))
                    go_wp2
                    go_quiet ((go_at_call 37; exact quiet_later (refturn_any _ _ (by decide) _)))
                    go_wp2_with (refine halt_store (ty := 68) rfl ?_)
                    refine go_onO (wpList_storeR rfl _ _ _ rfl _ _ rfl rfl (w := wr.drewN _) hVw (by kernel_rfl) (by rw [wcells_size]; rfl) (by simp [Value.oneCell']) ?_)
                    intro w9 hV9' hg9 hs9
                    have hV9 : w9.heap[VB]? = some (.cells (wcells (unat (roundW [a0, a1, a2, a3, a4, a5, a6, a7] kj wj))) 68 (0, 0)) := by
                      rw [ref_round_cells]
                      exact hV9'
                    clear hV9'
                    have hS9 := box_grown (w := wr.drewN _) hSw hg9 (by intro e; injection e; omega)
                    have hK9 := box_grown (w := wr.drewN _) hKw hg9 (by intro e; injection e; omega)
                    have hW9 := box_grown (w := wr.drewN _) hWw hg9 (by intro e; injection e; omega)
                    have hA9 := Rep.sl_grown (Rep.sl_below hAw (below_drewN (Below.refl wr.heap.size wr) _) (fun b hb => by omega)) hg9 (fun b hb => ⟨by show b < wr.heap.size; omega, by intro e; injection e; omega⟩)
                    have hB9 := (below_drewN hBw _).grown hg9 hBw.size (fun k e => by injection e; omega)
                    have hz9 : VB + 1 ≤ w9.heap.size := by rw [hs9]; exact hzw
                    clear hs9 hg9 s0 s1 s2 s3 s4 s5 s6 s7 cw ck
                    go_wp2
                    go_roundw
                    case rel => exact ⟨j + 1, by omega, by go_num, hS9, hK9, hW9, by rw [HRN.out]; exact hV9, hA9, hB9, hz9⟩
                    case measure => simp [intOf] <;> omega
                · have hje : j = 80 := by omega
                  have HS8 : Hid ((roundsW ks0 ws st j).length = 8) := roundsW_len HR8.out j
                  have HC2 : Hid (runB all (k + 1) = addsW st (roundsW ks0 ws st j)) := by show _ = _; rw [HRB.out, HCP.out, hje]
                  have hj80' : ¬ (j : Int) < 80 := by omega
                  clear hje
                  generalize roundsW ks0 ws st j = s at *
                  have HAL : Hid ((addsW st s).length = st.length) := addsW_len (by rw [HR8.out, HS8.out])
                  have HAG : Hid (∀ m, m < 8 → (addsW st s).getD m 0 = wa (st.getD m 0) (s.getD m 0)) := fun m hm => addsW_get (by rw [HR8.out]; exact hm) (by rw [HS8.out]; exact hm)
                  go_wp2
                  go_loopw [17] (fun mx wq => ∃ (m : Nat), m ≤ 8 ∧ mx = .int .i64 (m : Nat) ∧ wq.heap[SB]? = some (.cells (wcells (unat (mixL (addsW st s) st m))) 68 (0, 0)) ∧ wq.heap[KB]? = some (.cells (wcells (unat ks0)) 70 (0, 0)) ∧ wq.heap[VB]? = some (.cells (wcells (unat s)) 68 (0, 0)) ∧
                    Rep.u8.sl wq (fun b => w4.heap.size ≤ b ∧ b < w5.heap.size) (some ⟨AB, ao, none⟩) all.length c5 all ∧ Below w.heap.size w wq ∧ VB + 1 ≤ wq.heap.size) (fun mx _ => 8 - (intOf mx).toNat)
                  case atStart => exact ⟨0, by omega, rfl, by rw [show mixL (addsW st s) st 0 = st from rfl]; exact hSw, hKw, hVw, hAw, hBw, hzw⟩
                  case round =>
                    obtain ⟨m, hm, rfl, hS7, hK7, hV7, hA7, hB7', hz7⟩ := hrel
                    by_cases hm8 : m < 8
                    · have ca := ucell_at hS7 (i := m) (by rw [mixL_len HAL.out (by rw [HR8.out]; omega), HR8.out]; exact hm8)
                      rw [mixL_get HAL.out (by rw [HR8.out]; exact hm8)] at ca
                      have cb := ucell_at hV7 (i := m) (by rw [HS8.out]; exact hm8)
                      have fa := boxed_frozen hS7 m
                      have HX2 := Lib.hid (HAG.out m hm8)
                      generalize st.getD m 0 = x at *
                      generalize s.getD m 0 = y at *
                      go_wp2
                      refine wp_region_still_tail 9 (by kernel_rfl) (by kernel_rfl) ?_
                      change wpStill _ _ (World.drew _) _ _ _
                      simp only [List.take_succ_cons, List.take_zero, List.drop_succ_cons, List.drop_zero]
                      repeat (first | still_step | fail)
                      refine wpStill_nil ?_
                      change wpList _ _ _ _ _ (World.drew _)
                      go_wp2
                      go_roundw
                      case rel =>
                        refine ⟨m + 1, by omega, by go_num, ?_, box_far (w := wr.drew) hK7 (by simp only; omega) _, box_far (w := wr.drew) hV7 (by simp only; omega) _, Rep.sl_grown hA7 (grownBy_set (g := SB) (grownBy_drew (grownBy_of_below (Below.refl _ _) (some SB))) _) (fun b hb => ⟨by omega, by intro e; injection e; omega⟩), Below.setCell hB7'.drew (by simp only; omega) _, by simp; omega⟩
                        rw [← mixL_set HAL.out (by rw [HR8.out]; exact hm8), HX2.out]
                        exact ucell_set (w := wr.drew) hS7 m _
                      case measure => simp [intOf] <;> omega
                    · have hme : m = 8 := by omega
                      have hmx : mixL (addsW st s) st m = runB all (k + 1) := by
                        unfold mixL
                        rw [HC2.out, hme, List.take_of_length_le (by rw [HAL.out, HR8.out]; omega), List.drop_eq_nil_of_le (by rw [HR8.out]; omega), List.append_nil]
                      rw [hmx] at hS7
                      have hm8' : ¬ (m : Int) < 8 := by omega
                      clear hmx hme
                      have W128 : IntKind.i64.wrap (128 * (k : Int) + 128) = 128 * (k : Int) + 128 := IntWalk.i64_in _ (by omega)
                      go_wp2
                      go_roundw
                      case rel => exact ⟨k + 1, by omega, by first | go_num | (congr 1; omega), hS7, hK7, hA7, hB7', by omega⟩
                      case measure => simp [intOf] <;> omega
    · have hke : 128 * k = all.length := by omega
      have HRS2 : Hid (refS b = digest (runB all k)) := by show _ = _; rw [HRS.out, ← hke, Nat.mul_div_cancel_left k (by decide)]
      have HR8 : Hid ((runB all k).length = 8) := runB_len all k
      generalize runB all k = st at *
      have hnI : ¬ 128 * (k : Int) < (all.length : Int) := by omega
      have hzw := hB6.size
      clear hke
      go_wp2
      go_loopw [18, 19] (fun v ix wq => ∃ (i : Nat), i ≤ 8 ∧ ix = .int .i64 (i : Nat) ∧ Rep.u8.own 5 wq w.heap.size (fun _ => False) v ((digest st).take (8 * i)) ∧ wq.heap[SB]? = some (.cells (wcells (unat st)) 68 (0, 0)) ∧ Below w.heap.size w wq) (fun _ ix _ => 8 - (intOf ix).toNat)
      case atStart => exact ⟨0, by omega, rfl, own_lit (S := fun _ => False) #[] [] rfl rfl (by omega) (by decide) rfl (fun _ h => h.elim) (fun i x h => by simp at h), box_alloc hS6 _, hB6.alloc (by omega) _⟩
      case round =>
        obtain ⟨i, hi, rfl, hO, hS7, hB7⟩ := hrel
        obtain ⟨Ax, cx, hrr, _⟩ := Rep.own_sl hO
        subst hrr
        by_cases hi8 : i < 8
        · have hiI : (i : Int) < 8 := by omega
          go_wp2
          go_loopw [18, 20] (fun v sx wq => ∃ (j : Nat), j ≤ 8 ∧ sx = .int .i64 (56 - 8 * (j : Int)) ∧ Rep.u8.own 5 wq w.heap.size (fun _ => False) v ((digest st).take (8 * i + j)) ∧ wq.heap[SB]? = some (.cells (wcells (unat st)) 68 (0, 0)) ∧ Below w.heap.size w wq) (fun _ sx _ => (8 + intOf sx).toNat)
          case atStart => exact ⟨0, by omega, rfl, hO, hS7, hB7⟩
          case round =>
            obtain ⟨j, hj, rfl, hO2, hS8, hB8⟩ := hrel
            obtain ⟨Ay, cy, hrr, _⟩ := Rep.own_sl hO2
            subst hrr
            have hz8 := hB8.size
            by_cases hj8 : j < 8
            · have hs1 : (0 : Int) ≤ 56 - 8 * (j : Int) := by omega
              have hs2 : 56 - 8 * (j : Int) ≤ 63 := by omega
              have hs3 : 8 * (j : Int) ≤ 56 := by omega
              have hs4 : (56 - 8 * (j : Int)).toNat = 56 - 8 * j := by omega
              have cS := ucell_at hS8 (i := i) (by rw [HR8.out]; exact hi8)
              have HD : Hid ((digest st).take (8 * i + (j + 1)) = (digest st).take (8 * i + j) ++ [byteW (sr (st.getD i 0) (56 - 8 * j))]) := by
                show _ = _
                rw [← Nat.add_assoc, List.take_add_one, digest_get (by omega), show (8 * i + j) / 8 = i by omega, show (8 * i + j) % 8 = j by omega]
                rfl
              have hlen : ((digest st).take (8 * i + j)).length ≤ 64 := by
                rw [List.length_take]
                have : (digest st).length = 64 := rfl
                omega
              generalize st.getD i 0 = x at *
              generalize (digest st).take (8 * i + j) = L at *
              go_wp2_with (at_builtin; refine halt ?_)
              refine go_on (wpList_app1 rfl TU _ _ rfl (by rfl) (Rep.own_later hO2 (by first | (with_reducible rfl) | omega | (simp; done) | (simp; omega) | (intro b hb; (try dsimp only at hb); simp; omega) | (intro b hb; (try dsimp only at hb); simp [Value.ownBlock]; omega) | (intro b hb; exact hb.elim) | (go_grown; done))) [_] (byteW (sr x (56 - 8 * j))) rfl (cell_one_new _ _ _) rfl (by omega) (by omega) (by simp; omega) (fun _ h => h.elim) ?_)
              intro v5 w5 ho5 hg5 _
              have hO' := Rep.own_later (w' := wr.alloc (.cells #[.int .u8 ((byteW (sr x (56 - 8 * j))).toNat : Int)] 5)) hO2 ((Below.refl _ _).alloc (Nat.le_refl _) _)
              have hS9 := box_app (box_alloc hS8 _) hO' (by decide) hg5
              have hB9 := below_app (hB8.alloc hz8 _) hO' hg5 (Nat.le_refl _)
              rw [← HD.out] at ho5
              clear hO2 hO' hg5 hB8 hS8 cS
              go_wp2
              go_roundw
              case rel => exact ⟨j + 1, by omega, by first | go_num | (congr 1; omega), ho5, hS9, hB9⟩
              case measure => simp [intOf] <;> omega
            · have HJ : Hid ((digest st).take (8 * (i + 1)) = (digest st).take (8 * i + j)) := by show _ = _; rw [show 8 * (i + 1) = 8 * i + j by omega]
              have hlt0 : 56 - 8 * (j : Int) < 0 := by omega
              have hlt1 : (56 : Int) < 8 * (j : Int) := by omega
              go_wp2
              go_roundw
              case rel => exact ⟨i + 1, by omega, by go_num, by rw [HJ.out]; exact hO2, hS8, hB8⟩
              case measure => simp [intOf] <;> omega
        · have hT : (digest st).take (8 * i) = refS b := by
            rw [HRS2.out, show i = 8 by omega]
            exact List.take_of_length_le (Nat.le_refl _)
          have hi8' : ¬ (i : Int) < 8 := by omega
          go_wp2
          go_ret
          rw [hT] at hO
          exact ⟨.slice Ax (refS b).length cx, rfl, hO, hB7⟩
end Go.Proofs.Ytkgkbaicjpgljaa
