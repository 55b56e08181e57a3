/- Roots: the greatest number whose power isn't above another one, as the program goes. -/
import Derived.Test.YtkgkbaicjpgljaaSb
namespace Go.Proofs.Ytkgkbaicjpgljaa
open Go.RowKit Go.Lib
set_option linter.unusedVariables false

/-- The walk halts where this stands. -/
def HaltedO (p : Prop) : Prop := p
theorem go_onO {p : Prop} (h : p) : HaltedO p := h
theorem haltO {p : Prop} (h : HaltedO p) : p := h
attribute [irreducible] HaltedO

section
variable {P : Program} {w : World} {ops : Array Oper} {rest : List Oper} {o : Oper} {a : Act} {Q : Exit → Act → World → Prop}
theorem halt_load {ty : TypeId} {x : Operand} (ho : o.op = .load ty x) (h : HaltedO (wpList P ops Q (o :: rest) a w)) : wpList P ops Q (o :: rest) a w := haltO h
theorem halt_store {ty : TypeId} {x y : Operand} (ho : o.op = .store ty x y) (h : HaltedO (wpList P ops Q (o :: rest) a w)) : wpList P ops Q (o :: rest) a w := haltO h

theorem wcells_size (xs : List Nat) : (wcells xs).size = xs.length := by simp [wcells]
theorem wcells_one (xs : List Nat) : (wcells xs).all (·.oneCell') = true := by
  simp only [wcells, Array.all_toList.symm, List.all_eq_true, List.mem_map]
  rintro v ⟨n, _, rfl⟩
  rfl
/-- A whole row of words read. -/
theorem wpList_loadW (hgd : o.guard = none) (ty : TypeId) (x : Operand) (ho : o.op = .load ty x) (g : Nat) (hx : a.eval x = .pointer (some ⟨g, 0, none⟩)) (xs : List Nat) {k : Nat} (hl : xs.length = k) {t e : TypeId}
    (hg : w.heap[g]? = some (.cells (wcells xs) t (0, 0))) (hu : P.underlying ty = some (.array k e)) (hi : (P.info? ty).map (·.size) = some k)
    (h : wpList P ops Q rest (a.put o.dst (.agg (wcells xs))) w) : wpList P ops Q (o :: rest) a w :=
  wpList_load_row hgd ty x ho g hx t (wcells xs) (0, 0) _ hg hu rfl (by rw [wcells_size, hl]; exact hi) h
/-- A whole row of words written. -/
theorem wpList_storeW (hgd : o.guard = none) (ty : TypeId) (x y : Operand) (ho : o.op = .store ty x y) (g : Nat) (ys : List Nat) (hx : a.eval x = .pointer (some ⟨g, 0, none⟩)) (hy : a.eval y = .agg (wcells ys)) {k : Nat} (hl : ys.length = k) {t : TypeId} {old : Array Value}
    (hg : w.heap[g]? = some (.cells old t (0, 0))) (hold : old.size = k) (hi : (P.info? ty).map (·.size) = some k)
    (h : ∀ w' : World, w'.heap[g]? = some (.cells (wcells ys) t (0, 0)) → w.grownBy w' (some g) → w'.heap.size = w.heap.size → wpList P ops Q rest (a.put o.dst undef) w') : wpList P ops Q (o :: rest) a w := by
  refine wpList_store_row hgd ty x y ho g (wcells ys) hx hy t old hg (by rw [wcells_size, hl]; exact hi) (by rw [wcells_size, hl]; exact hold) (wcells_one ys) (h _ (setRow_heap w g old _ t _ hg) ⟨rfl, rfl, rfl, by simp, fun i hi hr => setRow_other w g i _ (by rintro rfl; exact hr rfl)⟩ (by simp))
end

def aboveAt (x y : List Nat) : Nat → Bool
  | 0 => false
  | n + 1 => if x.getD n 0 = y.getD n 0 then aboveAt x y n else decide (y.getD n 0 < x.getD n 0)

set_option maxHeartbeats 1000000 in
set_option maxRecDepth 100000 in
theorem above_c (x y : List Nat) (hx : Words 4 x) (hy : Words 4 y) (w : World) :
    Calls Try.prog 50 #[.agg (wcells x), .agg (wcells y)] w fun e w' => e = .returned (.bool (aboveAt x y 4)) ∧ Below w.heap.size w w' := by
  go_enter Try.func50, Try.ntmps50
  go_wp2
  go_loopw [5] (fun i wr => ∃ (n : Nat), n ≤ 4 ∧ i = .int .i64 ((n : Int) - 1) ∧ Hid (aboveAt x y 4 = aboveAt x y n) ∧ wr.heap[w.heap.size]? = some (.cells (wcells x) 85 (0, 0)) ∧ wr.heap[w.heap.size + 1]? = some (.cells (wcells y) 85 (0, 0)) ∧ Below w.heap.size w wr) (fun i _ => (intOf i + 1).toNat)
  case atStart => exact ⟨4, by omega, rfl, rfl, box_alloc (box_at2 rfl) _, box_at2 (by simp), by go_grown⟩
  case round =>
    obtain ⟨n, hn, rfl, HT, hbx, hby, hB⟩ := hrel
    by_cases h0 : 0 < n
    · obtain ⟨m, rfl⟩ : ∃ m, n = m + 1 := ⟨n - 1, by omega⟩
      have c1 := wcell_at hbx (i := m) (by have := hx.1; omega)
      have c2 := wcell_at hby (i := m) (by have := hy.1; omega)
      have e1 : ((m + 1 : Nat) : Int) - 1 = (m : Int) := by omega
      rw [e1]
      clear e1
      by_cases he : x.getD m 0 = y.getD m 0
      · have HS : Hid (aboveAt x y 4 = aboveAt x y m) := by
          show _ = _
          rw [HT.out, aboveAt, if_pos he]
        rw [he] at c1
        generalize y.getD m 0 = b at *
        clear he
        go_wp2
        go_quiet (fail)
        go_wp2
        go_roundw
        case rel => exact ⟨m, by omega, by go_num, HS, hbx, hby, below_drewN hB _⟩
        case measure => simp [intOf] <;> omega
      · have HS : Hid (aboveAt x y 4 = decide (y.getD m 0 < x.getD m 0)) := by
          show _ = _
          rw [HT.out, aboveAt, if_neg he]
        generalize y.getD m 0 = b at *
        generalize x.getD m 0 = c at *
        have hne : ((c : Int) != (b : Int)) = true := by simp only [bne_iff_ne, ne_eq]; omega
        clear he
        go_wp2
        go_quiet (fail)
        go_wp2
        go_quiet (fail)
        go_wp2
        go_ret
        exact ⟨by rw [HS.out]; exact ret_bool (by simp), below_drewN (below_drewN hB _) _⟩
    · obtain rfl : n = 0 := by omega
      go_wp2
      go_ret
      exact ⟨by rw [HT.out]; rfl, hB⟩

/-- A bit put into a row of words, a power, a step and all of a root. -/
def pow2 (n : Nat) : Nat := 2 ^ n
def nor (a b : Nat) : Nat := (a ||| b) % m64
theorem nor_lt (a b : Nat) : nor a b < m64 := Nat.mod_lt _ (by decide)
def bitL (x : List Nat) (b : Nat) : List Nat := x.set (b / 64) (nor (x.getD (b / 64) 0) (pow2 (b % 64)))
def powL (y : List Nat) : Nat → List Nat → List Nat
  | 0, z => z
  | n + 1, z => powL y n (timesL z y)
def stepR (goal : List Nat) (power : Nat) (x : List Nat) (b : Nat) : List Nat :=
  if aboveAt (powL (bitL x b) (power - 1) (bitL x b)) goal 4 = true then x else bitL x b
def rootR (goal : List Nat) (power : Nat) : Nat → List Nat → List Nat
  | 0, x => x
  | n + 1, x => rootR goal power n (stepR goal power x n)
def rootN (p power : Nat) : Nat := (rootR ([0, 0, 0, 0].set power p) power 69 [0, 0, 0, 0]).getD 0 0

theorem word_or (a b : Nat) : Op.intBits .or .u64 (a : Int) (b : Int) = pure (.int .u64 (nor a b : Int)) := by
  show pure (Value.int .u64 (IntKind.u64.wrap ((BitVec.ofInt 64 (a : Int) ||| BitVec.ofInt 64 (b : Int)).toNat : Int))) = pure (Value.int .u64 (nor a b : Int))
  rw [BitVec.toNat_or, BitVec.ofInt_natCast, BitVec.ofInt_natCast, BitVec.toNat_ofNat, BitVec.toNat_ofNat, IntKind.wrap_u64]
  unfold nor m64
  rw [show (18446744073709551616 : Nat) = 2 ^ 64 from rfl, Nat.or_mod_two_pow]
  congr 2
  have : (a % 2 ^ 64 ||| b % 2 ^ 64) < 2 ^ 64 := Nat.or_lt_two_pow (Nat.mod_lt _ (by decide)) (Nat.mod_lt _ (by decide))
  omega
theorem word_one (yk : IntKind) (n : Int) (h0 : 0 ≤ n) (h1 : n ≤ 63) : Op.shift .shl .u64 1 yk n = pure (.int .u64 (pow2 n.toNat : Int)) := by
  show _ = pure (Value.int .u64 ((2 ^ n.toNat : Nat) : Int))
  rw [shift_shl .u64 yk _ n h0 (by show n ≤ 64; omega)]
  have h2 : 2 ^ n.toNat < 2 ^ 64 := Nat.pow_lt_pow_right (by omega) (by omega)
  rw [IntKind.wrap_u64, Int.one_mul]
  congr 2
  have : ((2 ^ n.toNat : Nat) : Int) = (2 : Int) ^ n.toNat := by simp
  rw [← this]
  generalize 2 ^ n.toNat = K at *
  omega

theorem timesL_words (x y : List Nat) : Words 4 (timesL x y) := by
  have hs : ∀ i k s, Words 4 s.1 → Words 4 (stepT x y i k s).1 := fun i k s h => h.set _ _ (asum_lt _ _)
  have hr : ∀ i n s, Words 4 s.1 → Words 4 (rowT x y i n s).1 := by
    intro i n
    induction n with
    | zero => exact fun s h => h
    | succ n ih => exact fun s h => ih _ (hs _ _ _ h)
  have ha : ∀ n s, Words 4 s → Words 4 (allT x y n s) := by
    intro n
    induction n with
    | zero => exact fun s h => h
    | succ n ih => exact fun s h => ih _ (hr _ _ _ h)
  exact ha 4 _ ⟨rfl, by decide⟩

attribute [local go_sem ↓] word_or word_one
set_option maxHeartbeats 4000000 in
set_option maxRecDepth 100000 in
theorem root_2 (p : Nat) (hp : p < m64) (w : World) :
    Calls Try.prog 47 #[.int .u64 (p : Int), .int .i64 2] w fun e w' => e = .returned (.int .u64 (rootN p 2 : Int)) ∧ Below w.heap.size w w' := by
  have HG : Hid (Words 4 [0, 0, p, 0]) := Words.set (xs := [0, 0, 0, 0]) ⟨rfl, by decide⟩ 2 _ hp
  go_enter Try.func47, Try.ntmps47
  go_wp2
  go_loopw [7] (fun i wr => ∃ (n : Nat) (x : List Nat), n ≤ 69 ∧ i = .int .i64 ((n : Int) - 1) ∧ Words 4 x ∧ Hid (rootN p 2 = (rootR [0, 0, p, 0] 2 n x).getD 0 0) ∧
    wr.heap[w.heap.size]? = some (.cells (wcells [0, 0, p, 0]) 85 (0, 0)) ∧ wr.heap[w.heap.size + 1]? = some (.cells (wcells x) 85 (0, 0)) ∧ Below w.heap.size w wr ∧ w.heap.size + 2 ≤ wr.heap.size) (fun i _ => (intOf i + 1).toNat)
  case atStart => exact ⟨69, [0, 0, 0, 0], by omega, rfl, ⟨rfl, by decide⟩, rfl, box_alloc (box_at2 rfl) _, box_at2 (by simp), by go_grown, by simp⟩
  case round =>
    obtain ⟨n, x, hn, rfl, hw, HT, hbg, hbx, hB, hsz⟩ := hrel
    by_cases h0 : 0 < n
    · obtain ⟨m, rfl⟩ : ∃ m, n = m + 1 := ⟨n - 1, by omega⟩
      have e1 : ((m + 1 : Nat) : Int) - 1 = (m : Int) := by omega
      rw [e1]
      clear e1
      go_wp2_with (refine halt_load (ty := 85) rfl ?_)
      refine go_onO (wpList_loadW rfl _ _ rfl _ rfl x hw.1 hbx Try.underlying85 (by kernel_rfl) ?_)
      go_wp2_with (refine halt_store (ty := 85) rfl ?_)
      refine go_onO (wpList_storeW rfl _ _ _ rfl _ x rfl rfl hw.1 (box_at2 rfl) rfl (by kernel_rfl) ?_)
      intro w1 hby hg1 hs1
      have hbg1 := box_grown (box_alloc hbg _) hg1 (by simp <;> omega)
      have hbx1 := box_grown (box_alloc hbx _) hg1 (by simp <;> omega)
      have hB1 := (hB.alloc hB.size _).grown hg1 (by simp <;> omega) (fun k e => by injection e; omega)
      simp only [World.size_alloc] at hs1
      have cy := wcell_at hby (i := m / 64) (by have := hw.1; omega)
      have fy := boxed_frozen hby (m / 64)
      have HBL : Hid (bitL x m = x.set (m / 64) (nor (x.getD (m / 64) 0) (pow2 (m % 64)))) := rfl
      generalize x.getD (m / 64) 0 = b at *
      have hd1 : ((m : Int) / 64).toNat = m / 64 := by omega
      have hd2 : ((m : Int) % 64).toNat = m % 64 := by omega
      have hd3 : (m : Int) / 64 < 4 := by omega
      have hd4 : (0 : Int) ≤ (m : Int) / 64 := by omega
      have hd5 : (0 : Int) ≤ (m : Int) % 64 := by omega
      have hd6 : (m : Int) % 64 ≤ 63 := by omega
      have W1 : IntKind.i64.wrap ((m : Int) / 64) = (m : Int) / 64 := IntWalk.i64_in _ (by omega)
      have W2 : IntKind.i64.wrap ((m : Int) % 64) = (m : Int) % 64 := IntWalk.i64_in _ (by omega)
      have W3 : (m : Int).tmod 64 = (m : Int) % 64 := Int.tmod_eq_emod_of_nonneg (by omega)
      clear hbx hbg hB hg1
      go_wp2
      go_region
      have hby2 := wcell_set hby (m / 64) (nor b (pow2 (m % 64)))
      rw [← HBL.out] at hby2
      have hbg2 := box_far (p := ⟨wr.heap.size, m / 64, none⟩) hbg1 (by simp only; omega) (.int .u64 (nor b (pow2 (m % 64)) : Int))
      have hbx2 := box_far (p := ⟨wr.heap.size, m / 64, none⟩) hbx1 (by simp only; omega) (.int .u64 (nor b (pow2 (m % 64)) : Int))
      have hB2 := (Below.setCell (p := ⟨wr.heap.size, m / 64, none⟩) hB1 (by simp only; omega) (.int .u64 (nor b (pow2 (m % 64)) : Int))).drew
      have hs2 : (w1.setCell ⟨wr.heap.size, m / 64, none⟩ (.int .u64 (nor b (pow2 (m % 64)) : Int))).drew.heap.size = wr.heap.size + 1 := by simpa using hs1
      have hwy : Words 4 (bitL x m) := hw.set _ _ (nor_lt _ _)
      have hby3 : (w1.setCell ⟨wr.heap.size, m / 64, none⟩ (.int .u64 (nor b (pow2 (m % 64)) : Int))).drew.heap[wr.heap.size]? = _ := hby2
      have hbg3 : (w1.setCell ⟨wr.heap.size, m / 64, none⟩ (.int .u64 (nor b (pow2 (m % 64)) : Int))).drew.heap[w.heap.size]? = _ := hbg2
      have hbx3 : (w1.setCell ⟨wr.heap.size, m / 64, none⟩ (.int .u64 (nor b (pow2 (m % 64)) : Int))).drew.heap[w.heap.size + 1]? = _ := hbx2
      generalize (w1.setCell ⟨wr.heap.size, m / 64, none⟩ (.int .u64 (nor b (pow2 (m % 64)) : Int))).drew = w2 at *
      clear hby2 hbg2 hbx2 hby hbg1 hbx1 hB1 cy fy hd1 hd2 hd3 hd4 hd5 hd6 W1 W2 W3 HBL hs1
      have HY : Hid (∃ y, y = bitL x m) := ⟨_, rfl⟩
      generalize hy : bitL x m = y at *
      have HY := Lib.hid hy
      clear hy
      go_wp2_with (refine halt_load (ty := 85) rfl ?_)
      refine go_onO (wpList_loadW rfl _ _ rfl _ rfl y hwy.1 hby3 Try.underlying85 (by kernel_rfl) ?_)
      go_wp2_with (refine halt_store (ty := 85) rfl ?_)
      refine go_onO (wpList_storeW rfl _ _ _ rfl _ y rfl rfl hwy.1 (box_at2 hs2.symm) rfl (by kernel_rfl) ?_)
      intro w3 hbz4 hg4 hs4
      have hby4 := box_grown (box_alloc hby3 _) hg4 (by simp <;> omega)
      have hbg4 := box_grown (box_alloc hbg3 _) hg4 (by simp <;> omega)
      have hbx4 := box_grown (box_alloc hbx3 _) hg4 (by simp <;> omega)
      have hB4 := (hB2.alloc hB2.size _).grown hg4 (by simp <;> omega) (fun k e => by injection e; omega)
      simp only [World.size_alloc] at hs4
      have hs4' : wr.heap.size + 2 ≤ w3.heap.size := by omega
      clear hs4 hs2
      clear hby3 hbg3 hbx3 hB2 hg4
      go_wp2
      go_loopw [30] (fun c wq => ∃ (k : Nat) (z : List Nat), k ≤ 1 ∧ c = .int .i64 k ∧ Words 4 z ∧ Hid (powL y 1 y = powL y (1 - k) z) ∧ wq.heap[w.heap.size]? = some (.cells (wcells [0, 0, p, 0]) 85 (0, 0)) ∧ wq.heap[w.heap.size + 1]? = some (.cells (wcells x) 85 (0, 0)) ∧
        wq.heap[wr.heap.size]? = some (.cells (wcells y) 85 (0, 0)) ∧ wq.heap[wr.heap.size + 1]? = some (.cells (wcells z) 85 (0, 0)) ∧ Below w.heap.size w wq ∧ wr.heap.size + 2 ≤ wq.heap.size) (fun c _ => 1 - (intOf c).toNat)
      case atStart => exact ⟨0, y, by omega, rfl, hwy, rfl, hbg4, hbx4, hby4, hbz4, hB4, by omega⟩
      case round =>
        rename_i wq _
        obtain ⟨k, z, hk, rfl, hwz, HP, hbg5, hbx5, hby5, hbz5, hB5, hs5⟩ := hrel
        by_cases hlt : k < 1
        · go_wp2_with (refine halt_load (ty := 85) rfl ?_)
          refine go_onO (wpList_loadW rfl _ _ rfl _ rfl z hwz.1 hbz5 Try.underlying85 (by kernel_rfl) ?_)
          go_wp2_with (refine halt_load (ty := 85) rfl ?_)
          refine go_onO (wpList_loadW rfl _ _ rfl _ rfl y hwy.1 hby5 Try.underlying85 (by kernel_rfl) ?_)
          go_wp2_with fail
          refine Calls.mono (times_c z y hwz hwy _) ?_
          rintro e w6 ⟨rfl, hg6⟩
          have hs6 := hg6.size
          have hbg6 := box_below hbg5 hg6 (by omega)
          have hbx6 := box_below hbx5 hg6 (by omega)
          have hby6 := box_below hby5 hg6 (by omega)
          have hbz6 := box_below hbz5 hg6 (by omega)
          have hB6 := hB5.trans (hg6.mono hB5.size)
          have hw6 := timesL_words z y
          have HP6 : Hid (powL y 1 y = powL y (1 - (k + 1)) (timesL z y)) := by
            show _ = _
            rw [HP.out, show 1 - k = (1 - (k + 1)) + 1 by omega, powL]
          clear hbg5 hbx5 hby5 hbz5 hB5 hg6
          generalize timesL z y = z' at *
          go_wp2_with (refine halt_store (ty := 85) rfl ?_)
          refine go_onO (wpList_storeW rfl _ _ _ rfl _ z' rfl rfl hw6.1 hbz6 (by rw [wcells_size, hwz.1]) (by kernel_rfl) ?_)
          intro w7 hbz7 hg7 hs7
          have hbg7 := box_grown hbg6 hg7 (by simp <;> omega)
          have hbx7 := box_grown hbx6 hg7 (by simp <;> omega)
          have hby7 := box_grown hby6 hg7 (by simp <;> omega)
          have hB7 := hB6.grown hg7 (by omega) (fun k e => by injection e; omega)
          clear hbg6 hbx6 hby6 hbz6 hB6 hg7
          go_wp2
          go_roundw
          case rel => exact ⟨k + 1, z', by omega, by go_num, hw6, HP6, hbg7, hbx7, hby7, hbz7, hB7, by omega⟩
          case measure => simp [intOf] <;> omega
        · have hke : k = 1 := by omega
          have HZ : Hid (powL (bitL x m) (2 - 1) (bitL x m) = z) := by
            show _ = _
            rw [HY.out]
            have := HP.out
            rw [hke] at this
            exact this
          clear hke
          go_wp2_with (refine halt_load (ty := 85) rfl ?_)
          refine go_onO (wpList_loadW rfl _ _ rfl _ rfl z hwz.1 hbz5 Try.underlying85 (by kernel_rfl) ?_)
          go_wp2_with (refine halt_load (ty := 85) rfl ?_)
          refine go_onO (wpList_loadW rfl _ _ rfl _ rfl [0, 0, p, 0] rfl hbg5 Try.underlying85 (by kernel_rfl) ?_)
          go_wp2_with fail
          refine Calls.mono (above_c z [0, 0, p, 0] hwz HG.out _) ?_
          rintro e w6 ⟨rfl, hg6⟩
          have hs6 := hg6.size
          have hbg6 := box_below hbg5 hg6 (by omega)
          have hbx6 := box_below hbx5 hg6 (by omega)
          have hby6 := box_below hby5 hg6 (by omega)
          have hB6 := hB5.trans (hg6.mono hB5.size)
          clear hbg5 hbx5 hby5 hbz5 hB5 hg6
          cases ha : aboveAt z [0, 0, p, 0] 4 with
          | true =>
            have HT2 : Hid (rootN p 2 = (rootR [0, 0, p, 0] 2 m x).getD 0 0) := by
              show _ = _
              rw [HT.out, rootR, stepR, HZ.out, if_pos ha]
            clear ha
            go_wp2
            go_roundw
            case rel => exact ⟨m, x, by omega, by go_num, hw, HT2, hbg6, hbx6, hB6, by omega⟩
            case measure => simp [intOf] <;> omega
          | false =>
            have HT2 : Hid (rootN p 2 = (rootR [0, 0, p, 0] 2 m y).getD 0 0) := by
              show _ = _
              rw [HT.out, rootR, stepR, HZ.out, ha, if_neg (by decide), HY.out]
            clear ha
            go_wp2_with (refine halt_load (ty := 85) rfl ?_)
            refine go_onO (wpList_loadW rfl _ _ rfl _ rfl y hwy.1 hby6 Try.underlying85 (by kernel_rfl) ?_)
            go_wp2_with (refine halt_store (ty := 85) rfl ?_)
            refine go_onO (wpList_storeW rfl _ _ _ rfl _ y rfl rfl hwy.1 hbx6 (by rw [wcells_size, hw.1]) (by kernel_rfl) ?_)
            intro w7 hbx7 hg7 hs7
            have hbg7 := box_grown hbg6 hg7 (by simp)
            have hB7 := hB6.grown hg7 (by omega) (fun k e => by injection e; omega)
            clear hbg6 hbx6 hby6 hB6 hg7
            go_wp2
            go_roundw
            case rel => exact ⟨m, y, by omega, by go_num, hwy, HT2, hbg7, hbx7, hB7, by omega⟩
            case measure => simp [intOf] <;> omega
    · obtain rfl : n = 0 := by omega
      have c0 := wcell_at hbx (i := 0) (by have := hw.1; omega)
      have HR : Hid (rootN p 2 = x.getD 0 0) := by show _ = _; rw [HT.out]; rfl
      generalize x.getD 0 0 = b at *
      go_wp2
      go_ret
      exact ⟨by rw [HR.out]; rfl, hB⟩
set_option maxHeartbeats 4000000 in
set_option maxRecDepth 100000 in
theorem root_3 (p : Nat) (hp : p < m64) (w : World) :
    Calls Try.prog 47 #[.int .u64 (p : Int), .int .i64 3] w fun e w' => e = .returned (.int .u64 (rootN p 3 : Int)) ∧ Below w.heap.size w w' := by
  have HG : Hid (Words 4 [0, 0, 0, p]) := Words.set (xs := [0, 0, 0, 0]) ⟨rfl, by decide⟩ 3 _ hp
  go_enter Try.func47, Try.ntmps47
  go_wp2
  go_loopw [7] (fun i wr => ∃ (n : Nat) (x : List Nat), n ≤ 69 ∧ i = .int .i64 ((n : Int) - 1) ∧ Words 4 x ∧ Hid (rootN p 3 = (rootR [0, 0, 0, p] 3 n x).getD 0 0) ∧
    wr.heap[w.heap.size]? = some (.cells (wcells [0, 0, 0, p]) 85 (0, 0)) ∧ wr.heap[w.heap.size + 1]? = some (.cells (wcells x) 85 (0, 0)) ∧ Below w.heap.size w wr ∧ w.heap.size + 2 ≤ wr.heap.size) (fun i _ => (intOf i + 1).toNat)
  case atStart => exact ⟨69, [0, 0, 0, 0], by omega, rfl, ⟨rfl, by decide⟩, rfl, box_alloc (box_at2 rfl) _, box_at2 (by simp), by go_grown, by simp⟩
  case round =>
    obtain ⟨n, x, hn, rfl, hw, HT, hbg, hbx, hB, hsz⟩ := hrel
    by_cases h0 : 0 < n
    · obtain ⟨m, rfl⟩ : ∃ m, n = m + 1 := ⟨n - 1, by omega⟩
      have e1 : ((m + 1 : Nat) : Int) - 1 = (m : Int) := by omega
      rw [e1]
      clear e1
      go_wp2_with (refine halt_load (ty := 85) rfl ?_)
      refine go_onO (wpList_loadW rfl _ _ rfl _ rfl x hw.1 hbx Try.underlying85 (by kernel_rfl) ?_)
      go_wp2_with (refine halt_store (ty := 85) rfl ?_)
      refine go_onO (wpList_storeW rfl _ _ _ rfl _ x rfl rfl hw.1 (box_at2 rfl) rfl (by kernel_rfl) ?_)
      intro w1 hby hg1 hs1
      have hbg1 := box_grown (box_alloc hbg _) hg1 (by simp <;> omega)
      have hbx1 := box_grown (box_alloc hbx _) hg1 (by simp <;> omega)
      have hB1 := (hB.alloc hB.size _).grown hg1 (by simp <;> omega) (fun k e => by injection e; omega)
      simp only [World.size_alloc] at hs1
      have cy := wcell_at hby (i := m / 64) (by have := hw.1; omega)
      have fy := boxed_frozen hby (m / 64)
      have HBL : Hid (bitL x m = x.set (m / 64) (nor (x.getD (m / 64) 0) (pow2 (m % 64)))) := rfl
      generalize x.getD (m / 64) 0 = b at *
      have hd1 : ((m : Int) / 64).toNat = m / 64 := by omega
      have hd2 : ((m : Int) % 64).toNat = m % 64 := by omega
      have hd3 : (m : Int) / 64 < 4 := by omega
      have hd4 : (0 : Int) ≤ (m : Int) / 64 := by omega
      have hd5 : (0 : Int) ≤ (m : Int) % 64 := by omega
      have hd6 : (m : Int) % 64 ≤ 63 := by omega
      have W1 : IntKind.i64.wrap ((m : Int) / 64) = (m : Int) / 64 := IntWalk.i64_in _ (by omega)
      have W2 : IntKind.i64.wrap ((m : Int) % 64) = (m : Int) % 64 := IntWalk.i64_in _ (by omega)
      have W3 : (m : Int).tmod 64 = (m : Int) % 64 := Int.tmod_eq_emod_of_nonneg (by omega)
      clear hbx hbg hB hg1
      go_wp2
      go_region
      have hby2 := wcell_set hby (m / 64) (nor b (pow2 (m % 64)))
      rw [← HBL.out] at hby2
      have hbg2 := box_far (p := ⟨wr.heap.size, m / 64, none⟩) hbg1 (by simp only; omega) (.int .u64 (nor b (pow2 (m % 64)) : Int))
      have hbx2 := box_far (p := ⟨wr.heap.size, m / 64, none⟩) hbx1 (by simp only; omega) (.int .u64 (nor b (pow2 (m % 64)) : Int))
      have hB2 := (Below.setCell (p := ⟨wr.heap.size, m / 64, none⟩) hB1 (by simp only; omega) (.int .u64 (nor b (pow2 (m % 64)) : Int))).drew
      have hs2 : (w1.setCell ⟨wr.heap.size, m / 64, none⟩ (.int .u64 (nor b (pow2 (m % 64)) : Int))).drew.heap.size = wr.heap.size + 1 := by simpa using hs1
      have hwy : Words 4 (bitL x m) := hw.set _ _ (nor_lt _ _)
      have hby3 : (w1.setCell ⟨wr.heap.size, m / 64, none⟩ (.int .u64 (nor b (pow2 (m % 64)) : Int))).drew.heap[wr.heap.size]? = _ := hby2
      have hbg3 : (w1.setCell ⟨wr.heap.size, m / 64, none⟩ (.int .u64 (nor b (pow2 (m % 64)) : Int))).drew.heap[w.heap.size]? = _ := hbg2
      have hbx3 : (w1.setCell ⟨wr.heap.size, m / 64, none⟩ (.int .u64 (nor b (pow2 (m % 64)) : Int))).drew.heap[w.heap.size + 1]? = _ := hbx2
      generalize (w1.setCell ⟨wr.heap.size, m / 64, none⟩ (.int .u64 (nor b (pow2 (m % 64)) : Int))).drew = w2 at *
      clear hby2 hbg2 hbx2 hby hbg1 hbx1 hB1 cy fy hd1 hd2 hd3 hd4 hd5 hd6 W1 W2 W3 HBL hs1
      have HY : Hid (∃ y, y = bitL x m) := ⟨_, rfl⟩
      generalize hy : bitL x m = y at *
      have HY := Lib.hid hy
      clear hy
      go_wp2_with (refine halt_load (ty := 85) rfl ?_)
      refine go_onO (wpList_loadW rfl _ _ rfl _ rfl y hwy.1 hby3 Try.underlying85 (by kernel_rfl) ?_)
      go_wp2_with (refine halt_store (ty := 85) rfl ?_)
      refine go_onO (wpList_storeW rfl _ _ _ rfl _ y rfl rfl hwy.1 (box_at2 hs2.symm) rfl (by kernel_rfl) ?_)
      intro w3 hbz4 hg4 hs4
      have hby4 := box_grown (box_alloc hby3 _) hg4 (by simp <;> omega)
      have hbg4 := box_grown (box_alloc hbg3 _) hg4 (by simp <;> omega)
      have hbx4 := box_grown (box_alloc hbx3 _) hg4 (by simp <;> omega)
      have hB4 := (hB2.alloc hB2.size _).grown hg4 (by simp <;> omega) (fun k e => by injection e; omega)
      simp only [World.size_alloc] at hs4
      have hs4' : wr.heap.size + 2 ≤ w3.heap.size := by omega
      clear hs4 hs2
      clear hby3 hbg3 hbx3 hB2 hg4
      go_wp2
      go_loopw [30] (fun c wq => ∃ (k : Nat) (z : List Nat), k ≤ 2 ∧ c = .int .i64 k ∧ Words 4 z ∧ Hid (powL y 2 y = powL y (2 - k) z) ∧ wq.heap[w.heap.size]? = some (.cells (wcells [0, 0, 0, p]) 85 (0, 0)) ∧ wq.heap[w.heap.size + 1]? = some (.cells (wcells x) 85 (0, 0)) ∧
        wq.heap[wr.heap.size]? = some (.cells (wcells y) 85 (0, 0)) ∧ wq.heap[wr.heap.size + 1]? = some (.cells (wcells z) 85 (0, 0)) ∧ Below w.heap.size w wq ∧ wr.heap.size + 2 ≤ wq.heap.size) (fun c _ => 2 - (intOf c).toNat)
      case atStart => exact ⟨0, y, by omega, rfl, hwy, rfl, hbg4, hbx4, hby4, hbz4, hB4, by omega⟩
      case round =>
        rename_i wq _
        obtain ⟨k, z, hk, rfl, hwz, HP, hbg5, hbx5, hby5, hbz5, hB5, hs5⟩ := hrel
        by_cases hlt : k < 2
        · go_wp2_with (refine halt_load (ty := 85) rfl ?_)
          refine go_onO (wpList_loadW rfl _ _ rfl _ rfl z hwz.1 hbz5 Try.underlying85 (by kernel_rfl) ?_)
          go_wp2_with (refine halt_load (ty := 85) rfl ?_)
          refine go_onO (wpList_loadW rfl _ _ rfl _ rfl y hwy.1 hby5 Try.underlying85 (by kernel_rfl) ?_)
          go_wp2_with fail
          refine Calls.mono (times_c z y hwz hwy _) ?_
          rintro e w6 ⟨rfl, hg6⟩
          have hs6 := hg6.size
          have hbg6 := box_below hbg5 hg6 (by omega)
          have hbx6 := box_below hbx5 hg6 (by omega)
          have hby6 := box_below hby5 hg6 (by omega)
          have hbz6 := box_below hbz5 hg6 (by omega)
          have hB6 := hB5.trans (hg6.mono hB5.size)
          have hw6 := timesL_words z y
          have HP6 : Hid (powL y 2 y = powL y (2 - (k + 1)) (timesL z y)) := by
            show _ = _
            rw [HP.out, show 2 - k = (2 - (k + 1)) + 1 by omega, powL]
          clear hbg5 hbx5 hby5 hbz5 hB5 hg6
          generalize timesL z y = z' at *
          go_wp2_with (refine halt_store (ty := 85) rfl ?_)
          refine go_onO (wpList_storeW rfl _ _ _ rfl _ z' rfl rfl hw6.1 hbz6 (by rw [wcells_size, hwz.1]) (by kernel_rfl) ?_)
          intro w7 hbz7 hg7 hs7
          have hbg7 := box_grown hbg6 hg7 (by simp <;> omega)
          have hbx7 := box_grown hbx6 hg7 (by simp <;> omega)
          have hby7 := box_grown hby6 hg7 (by simp <;> omega)
          have hB7 := hB6.grown hg7 (by omega) (fun k e => by injection e; omega)
          clear hbg6 hbx6 hby6 hbz6 hB6 hg7
          go_wp2
          go_roundw
          case rel => exact ⟨k + 1, z', by omega, by go_num, hw6, HP6, hbg7, hbx7, hby7, hbz7, hB7, by omega⟩
          case measure => simp [intOf] <;> omega
        · have hke : k = 2 := by omega
          have HZ : Hid (powL (bitL x m) (3 - 1) (bitL x m) = z) := by
            show _ = _
            rw [HY.out]
            have := HP.out
            rw [hke] at this
            exact this
          clear hke
          go_wp2_with (refine halt_load (ty := 85) rfl ?_)
          refine go_onO (wpList_loadW rfl _ _ rfl _ rfl z hwz.1 hbz5 Try.underlying85 (by kernel_rfl) ?_)
          go_wp2_with (refine halt_load (ty := 85) rfl ?_)
          refine go_onO (wpList_loadW rfl _ _ rfl _ rfl [0, 0, 0, p] rfl hbg5 Try.underlying85 (by kernel_rfl) ?_)
          go_wp2_with fail
          refine Calls.mono (above_c z [0, 0, 0, p] hwz HG.out _) ?_
          rintro e w6 ⟨rfl, hg6⟩
          have hs6 := hg6.size
          have hbg6 := box_below hbg5 hg6 (by omega)
          have hbx6 := box_below hbx5 hg6 (by omega)
          have hby6 := box_below hby5 hg6 (by omega)
          have hB6 := hB5.trans (hg6.mono hB5.size)
          clear hbg5 hbx5 hby5 hbz5 hB5 hg6
          cases ha : aboveAt z [0, 0, 0, p] 4 with
          | true =>
            have HT2 : Hid (rootN p 3 = (rootR [0, 0, 0, p] 3 m x).getD 0 0) := by
              show _ = _
              rw [HT.out, rootR, stepR, HZ.out, if_pos ha]
            clear ha
            go_wp2
            go_roundw
            case rel => exact ⟨m, x, by omega, by go_num, hw, HT2, hbg6, hbx6, hB6, by omega⟩
            case measure => simp [intOf] <;> omega
          | false =>
            have HT2 : Hid (rootN p 3 = (rootR [0, 0, 0, p] 3 m y).getD 0 0) := by
              show _ = _
              rw [HT.out, rootR, stepR, HZ.out, ha, if_neg (by decide), HY.out]
            clear ha
            go_wp2_with (refine halt_load (ty := 85) rfl ?_)
            refine go_onO (wpList_loadW rfl _ _ rfl _ rfl y hwy.1 hby6 Try.underlying85 (by kernel_rfl) ?_)
            go_wp2_with (refine halt_store (ty := 85) rfl ?_)
            refine go_onO (wpList_storeW rfl _ _ _ rfl _ y rfl rfl hwy.1 hbx6 (by rw [wcells_size, hw.1]) (by kernel_rfl) ?_)
            intro w7 hbx7 hg7 hs7
            have hbg7 := box_grown hbg6 hg7 (by simp)
            have hB7 := hB6.grown hg7 (by omega) (fun k e => by injection e; omega)
            clear hbg6 hbx6 hby6 hB6 hg7
            go_wp2
            go_roundw
            case rel => exact ⟨m, y, by omega, by go_num, hwy, HT2, hbg7, hbx7, hB7, by omega⟩
            case measure => simp [intOf] <;> omega
    · obtain rfl : n = 0 := by omega
      have c0 := wcell_at hbx (i := 0) (by have := hw.1; omega)
      have HR : Hid (rootN p 3 = x.getD 0 0) := by show _ = _; rw [HT.out]; rfl
      generalize x.getD 0 0 = b at *
      go_wp2
      go_ret
      exact ⟨by rw [HR.out]; rfl, hB⟩
end Go.Proofs.Ytkgkbaicjpgljaa
