/- Rows of words in memory; products of wide numbers. -/
import Derived.Test.YtkgkbaicjpgljaaSa
import Derived.Test.YtkgkbaicjpgljaaV
import Derived.BigQuiet
import Derived.Deep.QuietTactic
import Derived.Handy
import Derived.StillTailTactics
import Derived.RegionTactic
import Derived.BigRegion
namespace Go.Proofs.Ytkgkbaicjpgljaa
open Go.RowKit Go.Lib
set_option linter.unusedVariables false

/-- The cells of a row of words, as numbers. -/
def wcell (n : Nat) : Value := .int .u64 (n : Int)
def wcells (xs : List Nat) : Array Value := (xs.map wcell).toArray
def m64 : Nat := 18446744073709551616
def Words (k : Nat) (xs : List Nat) : Prop := xs.length = k ∧ ∀ a ∈ xs, a < m64

theorem wcell_at {w : World} {g : Nat} {xs : List Nat} {t : TypeId} (h : w.heap[g]? = some (.cells (wcells xs) t (0, 0))) {i : Nat} (hi : i < xs.length) : w.cell? ⟨g, i, none⟩ = some (.int .u64 ((xs.getD i 0 : Nat) : Int)) := by
  refine boxed h i _ ?_
  simp [wcells, wcell, hi]
theorem wcell_set {w : World} {g : Nat} {xs : List Nat} {t : TypeId} (h : w.heap[g]? = some (.cells (wcells xs) t (0, 0))) (i : Nat) (n : Nat) : (w.setCell ⟨g, i, none⟩ (.int .u64 (n : Int))).heap[g]? = some (.cells (wcells (xs.set i n)) t (0, 0)) := by
  rw [box_set h]
  congr 2
  apply Array.ext'
  simp [wcells, wcell, List.map_set]
theorem Words.lt {k : Nat} {xs : List Nat} (h : Words k xs) (i : Nat) : xs.getD i 0 < m64 := by
  rw [List.getD_eq_getElem?_getD]
  cases hx : xs[i]? with
  | none => decide
  | some a => exact h.2 a (List.mem_of_getElem? hx)
theorem Words.set {k : Nat} {xs : List Nat} (h : Words k xs) (i n : Nat) (hn : n < m64) : Words k (xs.set i n) := by
  refine ⟨by rw [List.length_set]; exact h.1, fun a ha => ?_⟩
  rcases List.mem_or_eq_of_mem_set ha with h' | h'
  · exact h.2 a h'
  · rw [h']; exact hn

/-- The halves of a product, and a sum with what it carries. -/
def mhi (a b : Nat) : Nat := a * b / m64
def mlo (a b : Nat) : Nat := a * b % m64
def asum (a b : Nat) : Nat := (a + b) % m64
def acar (a b : Nat) : Nat := (a + b) / m64
theorem asum_lt (a b : Nat) : asum a b < m64 := Nat.mod_lt _ (by decide)
theorem mlo_lt (a b : Nat) : mlo a b < m64 := Nat.mod_lt _ (by decide)
theorem mhi_lt {a b : Nat} (ha : a < m64) (hb : b < m64) : mhi a b < m64 := Nat.div_lt_of_lt_mul (Nat.mul_lt_mul_of_lt_of_lt ha hb)
theorem word_add (a b : Nat) : Op.intArith .add .u64 (a : Int) (b : Int) = pure (.int .u64 (asum a b : Int)) := by
  show pure (Value.int .u64 (IntKind.u64.wrap ((a : Int) + (b : Int)))) = pure (Value.int .u64 (asum a b : Int))
  rw [IntKind.wrap_u64]
  unfold asum m64
  congr 2
theorem word_add64 (a b : Nat) (w : World) : (callFunc 53 #[.int .u64 (a : Int), .int .u64 (b : Int), .int .u64 0]).run Try.prog w = .ok (.value (.tuple #[.int .u64 (asum a b : Int), .int .u64 (acar a b : Int)])) w := by
  rw [run_callFunc_extern Try.func53 (by kernel_rfl) (by kernel_rfl) (by kernel_rfl) (e := add64Entry) (by kernel_rfl), run_add64 (a : Int) (b : Int) 0 (by omega) (by omega) (by omega) (by omega)]
  unfold asum acar m64
  rw [Int.add_zero]
  rfl

namespace Mul64
theorem maskN (a : Nat) (ha : a < 18446744073709551616) : bits .and .u64 (a : Int) 4294967295 = ((a % 4294967296 : Nat) : Int) := by
  have h := bits_and_u64_nat a 4294967295 ha (by omega)
  have e : a &&& 4294967295 = a % 4294967296 := Nat.and_two_pow_sub_one_eq_mod a 32
  rw [e] at h
  exact h
theorem divN (a : Nat) : (a : Int) / 4294967296 = ((a / 4294967296 : Nat) : Int) := by omega
theorem mulN (a b : Nat) : (a : Int) * (b : Int) = ((a * b : Nat) : Int) := (Int.natCast_mul a b).symm
theorem addN (a b : Nat) : (a : Int) + (b : Int) = ((a + b : Nat) : Int) := (Int.natCast_add a b).symm
theorem wrapN (a : Nat) (ha : a < 18446744073709551616) : IntKind.u64.wrap (a : Int) = (a : Int) := by rw [IntKind.wrap_u64]; omega
theorem wrapM (a : Nat) : IntKind.u64.wrap (a : Int) = ((a % 18446744073709551616 : Nat) : Int) := by rw [IntKind.wrap_u64]; omega
end Mul64

set_option maxHeartbeats 1000000 in
theorem mul64_c (x y : Nat) (hx : x < m64) (hy : y < m64) (w : World) :
    Calls Try.prog 52 #[.int .u64 x, .int .u64 y] w fun e w' => e = .returned (.tuple #[.int .u64 (mhi x y : Int), .int .u64 (mlo x y : Int)]) ∧ w = w' := by
  unfold mhi mlo
  unfold m64 at hx hy ⊢
  obtain ⟨bd, bt, bw, hhi⟩ := Lib.mul64_hi x y hx hy
  have ba := Lib.half_mul_le (a := x / 4294967296) (b := y / 4294967296) (by omega) (by omega)
  have bb := Lib.half_mul_le (a := x / 4294967296) (b := y % 4294967296) (by omega) (by omega)
  have bc := Lib.half_mul_le (a := x % 4294967296) (b := y / 4294967296) (by omega) (by omega)
  have ba' : x / 4294967296 * (y / 4294967296) < 18446744073709551616 := by omega
  have bb' : x / 4294967296 * (y % 4294967296) < 18446744073709551616 := by omega
  have bc' : x % 4294967296 * (y / 4294967296) < 18446744073709551616 := by omega
  have bh1 : x / 4294967296 * (y / 4294967296) + (x / 4294967296 * (y % 4294967296) + x % 4294967296 * (y % 4294967296) / 4294967296) / 4294967296 < 18446744073709551616 := by omega
  have bh : x / 4294967296 * (y / 4294967296) + (x / 4294967296 * (y % 4294967296) + x % 4294967296 * (y % 4294967296) / 4294967296) / 4294967296 + ((x / 4294967296 * (y % 4294967296) + x % 4294967296 * (y % 4294967296) / 4294967296) % 4294967296 + x % 4294967296 * (y / 4294967296)) / 4294967296 < 18446744073709551616 := by rw [hhi]; exact Nat.div_lt_of_lt_mul (Nat.mul_lt_mul_of_lt_of_lt hx hy)
  go_enter Try.func52, Try.ntmps52
  go_wp2
  simp only [Mul64.maskN x hx, Mul64.maskN y hy, Mul64.divN, Mul64.mulN, Mul64.addN, Mul64.wrapN _ bd, Mul64.wrapN _ bb', Mul64.wrapN _ bt, Mul64.maskN _ bt, Mul64.wrapN _ bc', Mul64.wrapN _ bw, Mul64.wrapN _ ba', Mul64.wrapN _ bh1, Mul64.wrapN _ bh, Mul64.wrapM (x * y)]
  rw [hhi]
  go_ret2
  exact ⟨rfl, rfl⟩

theorem quiet_eq {P : Program} {f : FuncId} {args : Array Value} {w : World} {n : Nat} {v : Value}
    (h : Calls P f args (w.drewN n) fun e w' => e = .returned v ∧ w.drewN n = w') : Calls P f args (w.drewN n) fun e w'' => e = .returned v ∧ ∃ m, w'' = w.drewN m :=
  h.mono fun _ _ ⟨he, hm⟩ => ⟨he, n, hm.symm⟩

theorem below_drewN {B : Nat} {a w : World} (h : Below B a w) (n : Nat) : Below B a (w.drewN n) := ⟨h.os, h.tape, h.output, h.size, h.block⟩
theorem box_at2 {w : World} {g : Nat} {cs : Array Value} {t : TypeId} (h : g = w.heap.size) : (w.alloc (.cells cs t)).heap[g]? = some (.cells cs t (0, 0)) := by
  subst h
  exact box_new w cs t

/-- A step, a row, all of a product, as the program goes. -/
def stepT (x y : List Nat) (i k : Nat) (s : List Nat × Nat) : List Nat × Nat :=
  (s.1.set (i + k) (asum (asum (mlo (x.getD i 0) (y.getD k 0)) (s.1.getD (i + k) 0)) s.2),
   asum (asum (mhi (x.getD i 0) (y.getD k 0)) (acar (mlo (x.getD i 0) (y.getD k 0)) (s.1.getD (i + k) 0))) (acar (asum (mlo (x.getD i 0) (y.getD k 0)) (s.1.getD (i + k) 0)) s.2))
def rowT (x y : List Nat) (i : Nat) : Nat → List Nat × Nat → List Nat × Nat
  | 0, s => s
  | n + 1, s => rowT x y i n (stepT x y i (4 - i - (n + 1)) s)
def allT (x y : List Nat) : Nat → List Nat → List Nat
  | 0, s => s
  | n + 1, s => allT x y n (rowT x y (4 - (n + 1)) (4 - (4 - (n + 1))) (s, 0)).1
def timesL (x y : List Nat) : List Nat := allT x y 4 [0, 0, 0, 0]

attribute [local go_sem ↓] word_add word_add64
set_option maxHeartbeats 4000000 in
set_option maxRecDepth 100000 in
theorem times_c (x y : List Nat) (hx : Words 4 x) (hy : Words 4 y) (w : World) :
    Calls Try.prog 49 #[.agg (wcells x), .agg (wcells y)] w fun e w' => e = .returned (.agg (wcells (timesL x y))) ∧ Below w.heap.size w w' := by
  go_enter Try.func49, Try.ntmps49
  go_wp2
  go_loopw [12] (fun i wr => ∃ (j : Nat) (out : List Nat), j ≤ 4 ∧ i = .int .i64 j ∧ Words 4 out ∧ Hid (timesL x y = allT x y (4 - j) out) ∧ wr.heap[w.heap.size]? = some (.cells (wcells x) 85 (0, 0)) ∧ wr.heap[w.heap.size + 1]? = some (.cells (wcells y) 85 (0, 0)) ∧
    wr.heap[w.heap.size + 1 + 1]? = some (.cells (wcells [0, 0, 0, 0]) 85 (0, 0)) ∧ wr.heap[w.heap.size + 1 + 1 + 1]? = some (.cells (wcells out) 85 (0, 0)) ∧ Below w.heap.size w wr) (fun i _ => 4 - (intOf i).toNat)
  case atStart => exact ⟨0, [0, 0, 0, 0], by omega, rfl, ⟨rfl, by decide⟩, rfl, box_alloc (box_alloc (box_alloc (box_at2 rfl) _) _) _, box_alloc (box_alloc (box_at2 (by simp)) _) _, box_alloc (box_at2 (by simp)) _, box_at2 (by simp), by go_grown⟩
  case round =>
    obtain ⟨j, out, hj, rfl, hw, HT, hbx, hby, hbr, hbo, hB⟩ := hrel
    by_cases hlt : j < 4
    · obtain ⟨wo, rfl⟩ : ∃ wo : World, wo = wr := ⟨_, rfl⟩
      go_wp2
      go_loopw [7, 8] (fun cr kk wq => ∃ (k : Nat) (out2 : List Nat) (cy : Nat), k ≤ 4 - j ∧ kk = .int .i64 k ∧ cr = .int .u64 cy ∧ cy < m64 ∧ Words 4 out2 ∧ Hid (rowT x y j (4 - j) (out, 0) = rowT x y j (4 - j - k) (out2, cy)) ∧ wq.heap[w.heap.size]? = some (.cells (wcells x) 85 (0, 0)) ∧ wq.heap[w.heap.size + 1]? = some (.cells (wcells y) 85 (0, 0)) ∧
        wq.heap[w.heap.size + 1 + 1]? = some (.cells (wcells [0, 0, 0, 0]) 85 (0, 0)) ∧ wq.heap[w.heap.size + 1 + 1 + 1]? = some (.cells (wcells out2) 85 (0, 0)) ∧ Below w.heap.size w wq) (fun _ kk _ => 4 - (intOf kk).toNat)
      case atStart => exact ⟨0, out, 0, by omega, rfl, rfl, by decide, hw, rfl, hbx, hby, hbr, hbo, hB⟩
      case round =>
        obtain ⟨k, out2, cy, hk, rfl, rfl, hcy, hw2, HT2, hbx2, hby2, hbr2, hbo2, hB2⟩ := hrel
        by_cases hlk : j + k < 4
        · have c1 := wcell_at hbx2 (i := j) (by have := hx.1; omega)
          have c2 := wcell_at hby2 (i := k) (by have := hy.1; omega)
          have c3 := wcell_at hbo2 (i := j + k) (by have := hw2.1; omega)
          have f3 := boxed_frozen hbo2 (j + k)
          have b1 := hx.lt j
          have b2 := hy.lt k
          have b3 := hw2.lt (j + k)
          generalize ha : x.getD j 0 = a at *
          generalize hb : y.getD k 0 = b at *
          generalize hc : out2.getD (j + k) 0 = c at *
          have HA := Lib.hid ha
          have HB := Lib.hid hb
          have HC := Lib.hid hc
          clear ha hb hc
          go_wp2
          have hjk : ((j : Int) + (k : Int)).toNat = j + k := by omega
          go_quiet ((go_at_call 52; exact quiet_eq (mul64_c a b b1 b2 _)))
          go_wp2
          have HS : Hid (rowT x y j (4 - j) (out, 0) = rowT x y j (4 - j - (k + 1)) (stepT x y j k (out2, cy))) := by
            show _ = _
            rw [HT2.out, show 4 - j - k = (4 - j - (k + 1)) + 1 by omega, rowT, show 4 - j - (4 - j - (k + 1) + 1) = k by omega]
          rw [show stepT x y j k (out2, cy) = (out2.set (j + k) (asum (asum (mlo a b) c) cy), asum (asum (mhi a b) (acar (mlo a b) c)) (acar (asum (mlo a b) c) cy)) by unfold stepT; rw [HA.out, HB.out, HC.out]] at HS
          go_roundw
          case rel => exact ⟨k + 1, _, _, by omega, by go_num, rfl, asum_lt _ _, hw2.set _ _ (asum_lt _ _), HS, box_far (w := wr.drewN nq) hbx2 (by simp only; omega) _, box_far (w := wr.drewN nq) hby2 (by simp only; omega) _, box_far (w := wr.drewN nq) hbr2 (by simp only; omega) _, wcell_set (w := wr.drewN nq) hbo2 _ _, Below.setCell (below_drewN hB2 nq) (by simp only; omega) _⟩
          case measure => simp [intOf]; omega
        · have HS : Hid (timesL x y = allT x y (4 - (j + 1)) out2) := by
            show _ = _
            have h1 := HT2.out
            rw [HT.out, show 4 - j = (4 - (j + 1)) + 1 by omega, allT, show 4 - (4 - (j + 1) + 1) = j by omega, h1, show 4 - j - k = 0 by omega]
            rfl
          go_wp2
          go_roundw
          case rel => exact ⟨j + 1, out2, by omega, by go_num, hw2, HS, hbx2, hby2, hbr2, hbo2, hB2⟩
          case measure => simp [intOf]; omega
    · have hj4 : j = 4 := by omega
      have HS : Hid (out = timesL x y) := by
        show _ = _
        rw [HT.out, hj4]
        rfl
      obtain ⟨o0, o1, o2, o3, ho⟩ : ∃ o0 o1 o2 o3, out = [o0, o1, o2, o3] := by
        match out, hw.1 with
        | [a, b, c, d], _ => exact ⟨a, b, c, d, rfl⟩
      subst ho
      clear hj4
      have hc := boxed hbo
      have co0 := hc 0 _ rfl; have co1 := hc 1 _ rfl; have co2 := hc 2 _ rfl; have co3 := hc 3 _ rfl
      have hd := boxed hbr
      have cr0 := hd 0 _ rfl; have cr1 := hd 1 _ rfl; have cr2 := hd 2 _ rfl; have cr3 := hd 3 _ rfl
      have fr0 := boxed_frozen hbr 0; have fr1 := boxed_frozen hbr 1; have fr2 := boxed_frozen hbr 2; have fr3 := boxed_frozen hbr 3
      clear hc hd
      simp only [wcell] at co0 co1 co2 co3 cr0 cr1 cr2 cr3
      go_wp2
      refine bodyPost_ret (results_cell_row rfl _ _ (w.heap.size + 1 + 1) 85 (wcells [o0, o1, o2, o3]) (0, 0) _ rfl (box_set (box_set (box_set (box_set hbr _) _) _) _) Try.underlying85 rfl (by kernel_rfl)) rfl ?_
      exact ⟨by rw [HS.out], by go_grown⟩
end Go.Proofs.Ytkgkbaicjpgljaa
