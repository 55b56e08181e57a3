/- The law of the cut. -/
import Derived.Test.YtkgkbaicjpgljaaSr
import Derived.Stop.BytesEq
import Derived.Deep.MidRow
import Derived.Deep.RegionHeld3
namespace Go.Proofs.Ytkgkbaicjpgljaa
open Go.RowKit Go.Lib
set_option linter.unusedVariables false
/-- The cells of bytes, as a list. -/
def bl (xs : List UInt8) : List Value := xs.map fun x => Value.int .u8 (x.toNat : Int)
theorem bl_arr (xs : List UInt8) : bcells xs = (bl xs).toArray := rfl
theorem bl_len (xs : List UInt8) : (bl xs).length = xs.length := by simp [bl]
theorem Row.range {w : World} {Q : Nat} {x : List UInt8} (h : Row w Q x) : w.rangeAt Q 0 (bl x) := fun j v hv => by
  have hb : bcells x = (bl x).toArray := rfl
  have := boxed h.1 j v (by rw [hb]; simpa using hv)
  simpa using this
theorem Row.lit {w : World} {Q : Nat} {x : List UInt8} (h : Row w Q x) (o : Obj) : Row (w.alloc o).drew Q x := ⟨box_alloc h.1 o, Nat.lt_of_lt_of_le h.2 (by show _ ≤ (w.heap.push o).size; simp)⟩
def RowPost (w : World) (m : List UInt8) (e : Ending) (w' : World) : Prop := e = .returned (.agg (bl (shaL m)).toArray) ∧ Below w.heap.size w w'
theorem of_b (l : List (List UInt8)) (m : List UInt8) (A : Option Addr) (n c : Nat) (w : World) (hm : Hid (l.flatten = m)) (hs : Rep.u8.slice.sl w (fun b => b < w.heap.size) A n c l) (hl : m.length ≤ 1000000000) :
    Calls Try.prog 20 #[.slice A n c] w (RowPost w m) := by
  have := hm.out
  subst this
  exact of_c l A n c w hs hl
theorem at_later {w w' : World} {A : Option Addr} {n c : Nat} {x : List UInt8} (h : Rep.u8.sl w (fun b => b < w.heap.size) A n c x) (hB : Below w.heap.size w w') : Rep.u8.sl w' (fun b => b < w'.heap.size) A n c x :=
  Rep.sl_more (Rep.sl_below h hB (fun _ h => h)) (fun b hb => Nat.lt_of_lt_of_le hb hB.size)
theorem lit1 {w0 w : World} {A : Option Addr} {n c : Nat} {x : List UInt8} (t : TypeId) (h : Rep.u8.sl w0 (fun b => b < w0.heap.size) A n c x) (hB : Below w0.heap.size w0 w) :
    Rep.u8.slice.sl (w.alloc (.cells #[.slice A n c] t)).drew (fun b => b < (w.alloc (.cells #[.slice A n c] t)).drew.heap.size) (some ⟨w.heap.size, 0, none⟩) 1 1 [x] :=
  row_slices (vs := [.slice A n c]) rfl (by simp) (box_new w _ t) fun i y hy => by
    match i, hy with
    | 0, hy =>
      injection hy with hy
      subst hy
      exact ⟨A, n, c, rfl, at_later h (hB.alloc hB.size _).drew⟩
theorem lit2 {w0 w : World} {A A' : Option Addr} {n c n' c' : Nat} {x y : List UInt8} (t : TypeId) (h : Rep.u8.sl w0 (fun b => b < w0.heap.size) A n c x) (h' : Rep.u8.sl w0 (fun b => b < w0.heap.size) A' n' c' y) (hB : Below w0.heap.size w0 w) :
    Rep.u8.slice.sl (w.alloc (.cells #[.slice A n c, .slice A' n' c'] t)) (fun b => b < (w.alloc (.cells #[.slice A n c, .slice A' n' c'] t)).heap.size) (some ⟨w.heap.size, 0, none⟩) 2 2 [x, y] :=
  row_slices (vs := [.slice A n c, .slice A' n' c']) rfl (by simp) (box_new w _ t) fun i z hz => by
    match i, hz with
    | 0, hz =>
      injection hz with hz
      subst hz
      exact ⟨A, n, c, rfl, at_later h (hB.alloc hB.size _)⟩
    | 1, hz =>
      injection hz with hz
      subst hz
      exact ⟨A', n', c', rfl, at_later h' (hB.alloc hB.size _)⟩
theorem Row.lit0 {w : World} {Q : Nat} {x : List UInt8} (h : Row w Q x) (o : Obj) : Row (w.alloc o) Q x := ⟨box_alloc h.1 o, Nat.lt_of_lt_of_le h.2 (by show _ ≤ (w.heap.push o).size; simp)⟩
theorem below_lit {w a b : World} {o : Obj} (h1 : Below w.heap.size w a) (h2 : Below (a.alloc o).drew.heap.size (a.alloc o).drew b) : Below w.heap.size w b := below_then (h1.alloc h1.size o).drew h2
theorem below_lit0 {w a b : World} {o : Obj} (h1 : Below w.heap.size w a) (h2 : Below (a.alloc o).heap.size (a.alloc o) b) : Below w.heap.size w b := below_then (h1.alloc h1.size o) h2
/-- A whole row of 64 bytes loaded, as one step. -/
def rowOk (w : World) (Q : Nat) : Bool := match w.heap[Q]? with
  | some (.cells cs _ _) => cs.size == 64
  | _ => false
def rowOf (w : World) (Q : Nat) : Value := match w.heap[Q]? with
  | some (.cells cs _ _) => .agg cs
  | _ => undef
def ldStep (v : Value) (w : World) (k : Value → Prop) (bad : Prop) : Prop := match v with
  | .pointer (some ⟨Q, 0, none⟩) => if rowOk w Q = true then k (rowOf w Q) else bad
  | _ => bad
@[irreducible] def slowWp (o : Oper) (a : Act) (w : World) (K : Act → World → Prop) (Q : Exit → Act → World → Prop) : Prop := o.wp Try.prog a w K Q
theorem wp_load64 (dst : Option Tmp) (x : Operand) (ty : TypeId) (pos : String) (after : Array Edge) (g : Option (Nat × Bool)) (a : Act) (w : World) (K : Act → World → Prop) (Q : Exit → Act → World → Prop) :
    Oper.wp Try.prog { dst := dst, op := .load 46 x, type := ty, pos := pos, after := after, guard := g } a w K Q =
      ldStep (a.eval x) w (fun v => K (a.put dst v) w) (slowWp { dst := dst, op := .load 46 x, type := ty, pos := pos, after := after, guard := g } a w K Q) := by
  unfold ldStep
  split
  · rename_i q hx
    split
    · rename_i h
      unfold rowOk at h
      split at h
      · rename_i cs t fr hq
        have hc : cs.size = 64 := by simpa using h
        unfold Oper.wp execOp
        simp only [hx, Instr.loadAt, Instr.sureAddr, Sem.run_bind, Sem.run_pure, Result.andThen_ok, run_loadVar_row w q t 46 cs fr _ hq Try.underlying46 rfl (by rw [hc]; kernel_rfl)]
        unfold rowOf
        rw [hq]
        rfl
      · cases h
    · unfold slowWp
      rfl
  · unfold slowWp
    rfl
@[go_sem] theorem ldStep_at (Q : Nat) (w : World) (k : Value → Prop) (bad : Prop) : ldStep (.pointer (some ⟨Q, 0, none⟩)) w k bad = if rowOk w Q = true then k (rowOf w Q) else bad := rfl
theorem Row.ok {w : World} {Q : Nat} {x : List UInt8} (h : Row w Q (shaL x)) : rowOk w Q = true := by
  unfold rowOk
  rw [h.1]
  simp [bcells_size, shaL_len]
theorem Row.of {w : World} {Q : Nat} {x : List UInt8} (h : Row w Q (shaL x)) : rowOf w Q = .agg (bl (shaL x)).toArray := by
  unfold rowOf
  rw [h.1]
  rfl
theorem eqRow (x : List UInt8) (w : World) : (Op.equalIn 10000 46 (.agg (bl (shaL x)).toArray) (.agg (bl (shaL x)).toArray)).run Try.prog w = .ok true w := by
  have := run_equalIn_bytes (P := Try.prog) w 9998 46 5 64 Try.underlying46 Try.underlying5 (fun w => by rfl) (shaL x) (shaL x) (shaL_len x) (shaL_len x)
  rw [show bl (shaL x) = (shaL x).map Extern.Stop.cell from rfl]
  simpa using this
theorem guardRow (x y : Operand) (xs ys : Array Value) (w : World) : (eqGuard .eql 46 x y (.agg xs) (.agg ys)).run Try.prog w = .ok () w := run_eqGuard_agg w .eql _ x y xs ys (by kernel_rfl)
attribute [local go_sem] eqRow guardRow
attribute [local go_sem ↓] wp_load64
theorem row_len (x : List UInt8) : (Try.prog.info? 46).map (·.size) = some (bl (shaL x)).length := by
  rw [bl_len, shaL_len]
  kernel_rfl
attribute [local irreducible] shaL bl rowOk rowOf

set_option maxHeartbeats 40000000 in
set_option maxRecDepth 100000 in
theorem shacut_c (x : List UInt8) (A : Option Addr) (n c : Nat) (ct : Int) (w : World) (hs : Rep.u8.sl w (fun b => b < w.heap.size) A n c x) :
    Calls Try.prog 10 #[.slice A n c, .int .i64 ct] w fun e w' => e = .returned (.bool true) ∧ Below w.heap.size w w' := by
  have hnc := hs.2.1
  have hcm := hs.2.2.1
  have HX := Lib.hid hs.1
  by_cases hbad : 2000 < n ∨ ct < 0 ∨ (n : Int) < ct
  · by_cases h1 : 2000 < n
    · have d1 : decide ((2000 : Int) < (n : Int)) = true := decide_eq_true (by omega)
      clear hbad
      go_enter Try.func10, Try.ntmps10
      go_wp2_with fail
      refine Calls.mono (sawake_c _) ?_
      rintro e w1 ⟨rfl, hB⟩
      go_wp2_with fail
      go_ret
      exact ⟨rfl, hB⟩
    have d1 : decide ((2000 : Int) < (n : Int)) = false := decide_eq_false (by omega)
    by_cases h2 : ct < 0
    · have d2 : decide (ct < 0) = true := decide_eq_true h2
      clear hbad
      go_enter Try.func10, Try.ntmps10
      go_wp2_with fail
      refine Calls.mono (sawake_c _) ?_
      rintro e w1 ⟨rfl, hB⟩
      go_wp2_with fail
      go_ret
      exact ⟨rfl, hB⟩
    · have d2 : decide (ct < 0) = false := decide_eq_false h2
      have d3 : decide ((n : Int) < ct) = true := decide_eq_true (by omega)
      clear hbad
      go_enter Try.func10, Try.ntmps10
      go_wp2_with fail
      refine Calls.mono (sawake_c _) ?_
      rintro e w1 ⟨rfl, hB⟩
      go_wp2_with fail
      go_ret
      exact ⟨rfl, hB⟩
  · obtain ⟨k, rfl⟩ : ∃ k : Nat, ct = (k : Int) := ⟨ct.toNat, by omega⟩
    have hk : k ≤ n := by omega
    have hn2 : n ≤ 2000 := by omega
    clear hbad
    have d1 : decide ((2000 : Int) < (n : Int)) = false := decide_eq_false (by omega)
    have d2 : decide ((k : Int) < 0) = false := decide_eq_false (by omega)
    have d3 : decide ((n : Int) < (k : Int)) = false := decide_eq_false (by omega)
    have hkI : (k : Int) ≤ (n : Int) := by omega
    have hkc : (k : Int) ≤ (c : Int) := by omega
    go_enter Try.func10, Try.ntmps10
    go_wp2_with fail
    refine Calls.mono (new_c _) ?_
    rintro e w1 ⟨rfl, hh1, hB1⟩
    have hh1' : HashOf w1 w.heap.size w.heap.size [] := hh1
    clear hh1 d1 d2 d3
    have hgw : w.heap.size < w1.heap.size := by obtain ⟨r, h1, _⟩ := hh1'; exact (Array.getElem?_eq_some_iff.1 h1).1
    have hs1 := Rep.sl_below hs hB1 (fun _ h => h)
    have HS := Lib.hid hs
    have HT := Lib.hid (Rep.sl_take hs hk)
    have hcut0 := Rep.sl_cut hs hk
    simp only [show Rep.u8.size = 1 from rfl, Nat.mul_one] at hcut0
    have HC0 := Lib.hid hcut0
    clear hcut0
    go_wp2_with fail
    refine Calls.mono (writes_m [] (x.take k) w.heap.size w.heap.size A k c _ _ hh1' (Nat.le_refl _) (Rep.sl_take hs1 hk) (fun b hb => by omega) (fun b hb => by omega) (by simp; omega)) ?_
    rintro e w2 ⟨rfl, hh2, hB2⟩
    have hz2 := hB2.size
    have hB2' := hB1.trans hB2
    have hs2 := Rep.sl_below hs hB2' (fun _ h => h)
    have hh2' := hash_base (lo' := w.heap.size) hh2 (by omega)
    have hcut := Rep.sl_cut hs2 hk
    simp only [show Rep.u8.size = 1 from rfl, Nat.mul_one] at hcut
    obtain ⟨A4, hA4⟩ : ∃ A4, (if c = k then A else Option.map (fun x => x.add k) A) = A4 := ⟨_, rfl⟩
    rw [hA4] at hcut
    have hcut0 := HC0.out
    rw [hA4] at hcut0
    have HC1 := Lib.hid hcut0
    clear HC0 hcut0
    have HC := Lib.hid hcut
    have HXL : Hid ((x.take k).length = k) := by show _ = _; rw [List.length_take]; have := HX.out; omega
    have hxl := HXL.out
    have hgw2 : w.heap.size < w2.heap.size := by omega
    clear hs hs1 hh1' hB1 hB2 hh2
    go_wp2_with fail
    refine Calls.mono (writes_m (x.take k) (x.drop k) w.heap.size w.heap.size A4 (n - k) (c - k) _ _ hh2' (Nat.le_refl _) HC.out (fun b hb => by omega) (fun b hb => by omega) (by omega)) ?_
    rintro e w3 ⟨rfl, hh3, hB3⟩
    have hz3 := hB3.size
    have hB3' := hB2'.trans hB3
    rw [List.take_append_drop] at hh3
    clear hh2' hB3 hB2' hs2 hcut hxl
    go_wp2_with fail
    refine Calls.mono (sums_m x _ _ _ hh3 (by have := HX.out; omega)) ?_
    rintro e w4 ⟨rfl, hB4⟩
    have hB4' := below_then hB3' hB4
    have hz4 := hB4'.size
    clear hh3 hB3' hB4
    go_wp2_with (refine halt_store (ty := 46) rfl ?_)
    obtain ⟨Q, hQ⟩ : ∃ Q : Nat, Q = w4.heap.size := ⟨_, rfl⟩
    rw [← hQ]
    refine go_onO (wpList_storeR rfl _ _ _ rfl Q (bcells (shaL x)) rfl rfl (box_at2 hQ) (by rw [bcells_size, shaL_len]; kernel_rfl) (by rw [bcells_size, shaL_len]; rfl) (bcells_one _) ?_)
    intro w5 hq5 hg5 hs5
    have hB5 := (hB4'.alloc hz4 _).grown hg5 (by simp; omega) (fun k e => by injection e; omega)
    simp only [World.size_alloc] at hs5
    have HQ : Row w5 Q (shaL x) := ⟨hq5, by omega⟩
    clear hQ hg5 hs5 hq5 hB4' hz4
    go_wp2
    have r1 := HQ.drew.ok; have r2 := HQ.drew.of
    have r3 := (HQ.lit (.cells #[.slice A n c] 25)).ok; have r4 := (HQ.lit (.cells #[.slice A n c] 25)).of
    have HB5 := Lib.hid hB5
    have HM1 : Hid ([x].flatten = x) := by show _ = _; simp
    have HM2 : Hid ([x.take k, x.drop k].flatten = x) := by show _ = _; simp
    have HLL : Hid (x.length ≤ 1000000000) := by show _ ≤ _; have := HX.out; omega
    clear hB5 hgw hgw2 hz2 hz3 HC
    go_region_law? (go_simp; first
        | (go_at_call 20; have _q := HQ6; refine Calls.mono (of_b [x.take k, x.drop k] x _ _ _ _ HM2 (lit2 _ HT.out HC1.out HB6.out) HLL.out) ?_; rintro e w7 ⟨rfl, hB7⟩; have HQ7 := (HQ6.lit0 _).later hB7; have kq7 := HQ7.conv; have p1 := HQ7.ok; have p2 := HQ7.of; have HB7 := Lib.hid (below_lit0 HB6.out hB7); clear hB7; go_simp)
        | (go_at_call 20; refine Calls.mono (of_b [x] x _ _ _ _ HM1 (lit1 _ HS.out HB5.out) HLL.out) ?_; rintro e w6 ⟨rfl, hB6⟩; have HQ6 := (HQ.lit _).later hB6; have q1 := HQ6.ok; have q2 := HQ6.of; have q3 := (HQ6.lit0 (.cells #[.slice A k c, .slice A4 (n - k) (c - k)] 25)).ok; have q4 := (HQ6.lit0 (.cells #[.slice A k c, .slice A4 (n - k) (c - k)] 25)).of; have HB6 := Lib.hid (below_lit HB5.out hB6); clear hB6; go_simp)
        | (go_at_call 21; refine Calls.mono (refsum_b x A n c _ (at_later HS.out HB7.out) HLL.out) ?_; rintro e w8 ⟨A8, c8, rfl, hs8, hB8⟩; have k8 := bytes_conv hs8; have HQ8 := HQ7.later hB8; have kq8 := HQ8.conv; have HB8 := Lib.hid (below_then HB7.out hB8); clear hs8 hB8; go_simp)
        | (go_at_call 19; refine Calls.mono (sawake_c _) ?_; rintro e w9 ⟨rfl, hB9⟩; have HB9 := Lib.hid (below_then HB8.out hB9); clear hB9; go_simp))
    all_goals
      go_wp2
      go_ret
      exact ⟨rfl, HB9.out⟩
end Go.Proofs.Ytkgkbaicjpgljaa
