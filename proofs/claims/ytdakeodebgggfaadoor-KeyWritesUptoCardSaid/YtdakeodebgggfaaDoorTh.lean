/- The reference's form of a value. -/
import Derived.Test.YtdakeodebgggfaaDoorTf
import Derived.Test.YtdakeodebgggfaaDoorTg
import Derived.Deep.RegionWith
import Derived.Deep.RegionLaw
import Derived.Deep.RegionHeld3
import Derived.BigQuiet
namespace Go.Proofs.YtdakeodebgggfaaDoor
open Go.RowKit
set_option linter.unusedVariables false

theorem TB : ElemT Tryd.prog 22 5 (.int .u8 0) 1 1 := ⟨Tryd.underlying22, by kernel_rfl, rfl, by decide⟩
theorem conv1 {w : World} {g : Nat} {x : UInt8} {k : Int} (hk : k = (x.toNat : Int)) (h : w.heap[g]? = some (.cells #[.int .u8 k] 5 (0, 0))) :
    (convert 22 9 (.slice (some ⟨g, 0, none⟩) 1 1)).run Tryd.prog w = .ok (.string ⟨#[x]⟩) w := by
  subst hk
  exact conv_bs (bs := [x]) Tryd.underlying22 Tryd.underlying5 Tryd.underlying9 (sl_box (r := Rep.u8) (S := fun _ => True) h trivial rfl (Nat.le_refl _) (by decide) (rd_one rfl))
def TextPost (w : World) (xs : List UInt8) (e : Ending) (w' : World) : Prop := e = .returned (.string ⟨xs.toArray⟩) ∧ Below w.heap.size w w'
def digit (n : Nat) : UInt8 := UInt8.ofNat (48 + n % 10)
theorem digit_val (n : Nat) : ((digit n).toNat : Int) = 48 + ((n % 10 : Nat) : Int) := by
  unfold digit
  rw [UInt8.toNat_ofNat']
  omega
theorem dec_small {n : Nat} (h : n < 10) : dec n = [digit n] := by
  rw [dec, if_pos h, digit, Nat.mod_eq_of_lt h]
theorem dec_big {n : Nat} (h : ¬ n < 10) : dec n = dec (n / 10) ++ [digit n] := by
  rw [dec, if_neg h, digit]

theorem dec_add {n q : Nat} (h : dec n = dec q ++ [digit n]) (hq : q ≤ 1000000000) : Op.stringOp .add ⟨(dec q).toArray⟩ ⟨#[digit n]⟩ = pure (.string ⟨(dec n).toArray⟩) := by
  have hl := dec_len (n := q) 9 (by simp only [Nat.reduceAdd, Nat.reducePow]; omega)
  have hs : (ByteArray.size ⟨(dec q).toArray⟩) = (dec q).length := by simp [ByteArray.size]
  have hs2 : (ByteArray.size ⟨#[digit n]⟩) = 1 := rfl
  unfold Op.stringOp
  simp only [hs, hs2]
  rw [if_neg (by rw [show IntKind.i64.max = 9223372036854775807 from by decide]; omega)]
  congr 2
  rw [h]
  ext1
  simp [ByteArray.data_append]
set_option maxHeartbeats 1000000 in
set_option maxRecDepth 100000 in
theorem decref_c (n : Nat) : ∀ (w : World), n ≤ 1000000000 → Calls Tryd.prog 66 #[.int .i64 (n : Nat)] w (TextPost w (dec n)) := by
  induction n using Nat.strongRecOn with
  | _ n ih =>
  intro w hn
  by_cases h10 : n < 10
  · have d1 : decide ((n : Int) < 10) = true := decide_eq_true (by omega)
    have hm : max (n : Int) 0 = (n : Int) := by omega
    have hw1 : IntKind.u8.wrap (n : Int) = (n : Int) := by rw [IntKind.wrap_u8]; omega
    have hw2 : IntKind.u8.wrap (48 + (n : Int)) = 48 + (n : Int) := by rw [IntKind.wrap_u8]; omega
    have kc := conv1 (w := w.alloc (.cells #[.int .u8 (48 + (n : Int))] 5)) (x := digit n) (by rw [digit_val]; omega) (box_new w _ _)
    have HD := Lib.hid (dec_small h10)
    clear ih
    go_enter Tryd.func66, Tryd.ntmps66
    go_wp2
    go_ret
    exact ⟨by rw [HD.out]; rfl, Below.alloc (Below.refl _ w) (Nat.le_refl _) _⟩
  · have d1 : decide ((n : Int) < 10) = false := decide_eq_false (by omega)
    have hadd := dec_add (dec_big h10) (by omega)
    have HD := Lib.hid (dec_big h10)
    have IH := Lib.hid (ih (n / 10) (by omega))
    have hn' : n / 10 ≤ 1000000000 := by omega
    have HV := Lib.hid (digit_val n).symm
    have hq : (n : Int) / 10 = ((n / 10 : Nat) : Int) := by omega
    have hr : (n : Int) % 10 = ((n % 10 : Nat) : Int) := by omega
    have hr9 : n % 10 < 10 := by omega
    clear ih
    generalize n / 10 = q at *
    generalize n % 10 = r at *
    have ht : Int.tmod (n : Int) 10 = (r : Int) := by rw [Int.tmod_eq_emod_of_nonneg (by omega)]; exact hr
    have hw0 : IntKind.i64.wrap (q : Int) = (q : Int) := IntWalk.i64_in _ (by omega)
    have hw3 : IntKind.i64.wrap (r : Int) = (r : Int) := IntWalk.i64_in _ (by omega)
    have hw1 : IntKind.u8.wrap (r : Int) = (r : Int) := by rw [IntKind.wrap_u8]; omega
    have hw2 : IntKind.u8.wrap (48 + (r : Int)) = 48 + (r : Int) := by rw [IntKind.wrap_u8]; omega
    go_enter Tryd.func66, Tryd.ntmps66
    go_wp2_with fail
    have hv0 := box_new w #[.int .u8 (48 + (r : Int))] 5
    have k1 := conv1 (w := (w.alloc (.cells #[.int .u8 (48 + (r : Int))] 5)).drew) HV.out hv0
    have hv1 : (w.alloc (.cells #[.int .u8 (48 + (r : Int))] 5)).drew.heap[w.heap.size]? = some (.cells #[.int .u8 (48 + (r : Int))] 5 (0, 0)) := hv0
    have HA : Hid (Below w.heap.size w (w.alloc (.cells #[.int .u8 (48 + (r : Int))] 5)).drew) := (Below.alloc (Below.refl _ w) (Nat.le_refl _) _).drew
    have HA0 : Hid (Below w.heap.size w w.drew) := (Below.refl _ w).drew
    have HL : Hid (w.heap.size < (w.alloc (.cells #[.int .u8 (48 + (r : Int))] 5)).drew.heap.size) := by show w.heap.size < (w.heap.push _).size; simp
    go_region_with (go_at_call 66; refine Calls.mono (IH.out _ hn') ?_; rintro e w1 ⟨rfl, hB1⟩; first | (have k2 := conv1 (w := w1) HV.out (box_below hv1 hB1 HL.out); have HB1 := Lib.hid (below_then HA.out hB1); clear hB1) | (have k2 := conv1 (w := w1.alloc (.cells #[.int .u8 (48 + (r : Int))] 5)) HV.out (box_new w1 _ _); have HB1 := Lib.hid ((below_then HA0.out hB1).alloc (below_then HA0.out hB1).size (.cells #[.int .u8 (48 + (r : Int))] 5)); clear hB1))
    all_goals
      go_wp2
      go_ret
      exact ⟨rfl, HB1.out⟩

def BytesPost (w : World) (xs : List UInt8) (e : Ending) (w' : World) : Prop := ∃ A c, e = .returned (.slice A xs.length c) ∧ Rep.u8.sl w' (fun b => b < w'.heap.size) A xs.length c xs ∧ Below w.heap.size w w'
theorem below_own {w0 w w' : World} {base : Nat} {v : Value} {xs : List UInt8} (hB : Below w0.heap.size w0 w) (ho : OwnB w base v xs) (hg : w.grownBy w' v.ownBlock) (hb : w0.heap.size ≤ base) : Below w0.heap.size w0 w' :=
  hB.grown hg hB.size fun k hk => Nat.le_trans hb (ho.lt k hk).1
theorem sl_lit1 {w : World} {x : UInt8} {k : Int} (hk : k = (x.toNat : Int)) (t : TypeId) : Rep.u8.sl (w.alloc (.cells #[.int .u8 k] t)) (fun _ => True) (some ⟨w.heap.size, 0, none⟩) 1 1 [x] := by
  subst hk
  exact sl_box (r := Rep.u8) (S := fun _ => True) (box_new w _ t) trivial rfl (Nat.le_refl _) (by decide) (rd_one rfl)

set_option maxHeartbeats 1000000 in
set_option maxRecDepth 100000 in
theorem textref_c (b : List UInt8) (A : Option Addr) (n c : Nat) (w : World) (hs : Rep.u8.sl w (fun b => b < w.heap.size) A n c b) (hn : n ≤ 1000000000) :
    Calls Tryd.prog 56 #[.slice A n c] w (BytesPost w (textB b)) := by
  have HS := Lib.hid hs
  have HT : Hid (dec n ++ [58] ++ b = textB b) := by show _ = _; rw [textB, hs.1]
  have hdl : (dec n).length ≤ 10 := dec_len 9 (by simp only [Nat.reduceAdd, Nat.reducePow]; omega)
  have HD := Lib.hid hdl
  clear hs hdl
  go_enter Tryd.func56, Tryd.ntmps56
  go_wp2_with fail
  refine Calls.mono (decref_c n _ hn) ?_
  rintro e w1 ⟨rfl, hB1⟩
  obtain ⟨v2, w2, hcv, ho2, hB2⟩ := conv_own (P := Tryd.prog) Tryd.underlying9 Tryd.underlying22 Tryd.underlying5 w1 (dec n) (by have := HD.out; omega)
  have hB2' := below_then hB1 hB2
  have hz1 := hB1.size
  have hz2 := hB2.size
  generalize dec n = D at *
  go_wp2_with (at_builtin; refine halt ?_)
  refine go_on (wpList_appB rfl TB _ _ rfl (by rfl) (ho2.alloc _) (by rfl) (sl_lit1 (x := 58) rfl _) (by have := HD.out; omega) (by simp only [World.size_alloc]; omega) ?_)
  intro v3 w3 ho3 hg3
  have hB3 := below_own (hB2'.alloc hB2'.size _) (ho2.alloc _) hg3 hz1
  have hz3 := hB3.size
  have hs3 := sl_later HS.out hB3
  have hg3b : w1.heap.size ≤ w3.heap.size := Nat.le_trans (by simp only [World.size_alloc]; omega) hg3.size
  clear hcv hB2 hB1 hg3
  go_wp2_with (at_builtin; refine halt ?_)
  refine go_on (wpList_appB rfl TB _ _ rfl (by rfl) ho3 (by rfl) hs3 (by have := HD.out; simp only [List.length_append, List.length_singleton]; omega) (by have := hg3b; omega) ?_)
  intro v4 w4 ho4 hg4
  have hB4 := below_own hB3 ho3 hg4 hz1
  rw [HT.out] at ho4
  obtain ⟨A4, c4, rfl, hs4⟩ := ho4.sl_all
  clear ho4 hg4 ho3 hs3
  go_wp2
  go_ret
  exact ⟨A4, c4, rfl, hs4, hB4⟩
end Go.Proofs.YtdakeodebgggfaaDoor
