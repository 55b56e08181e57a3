/- The package proof, and its reference: the small functions. -/
import Derived.Test.YtkgkbaicjpgljaaProg
import Derived.Test.YtkgkbaicjpgljaaW
import Derived.BigQuiet
import Derived.Handy
import Derived.Deep.RegionHeld3
import Derived.Deep.DrawnRows
namespace Go.Proofs.Ytkgkbaicjpgljaa
open Go.RowKit

structure Line where
  kind : UInt8
  dfn : Int
  cert : Bool
  index : Int
  path : List UInt8
  flag : Bool
  refs : List Int

/-- A line's seven cells. -/
def Rep.line : Rep Line where
  size := 7
  pos := by omega
  rd := fun w S cs l => ∃ rv, cs = [.int .u8 (l.kind.toNat : Int), .int .i64 l.dfn, .bool l.cert, .int .i64 l.index, .string ⟨l.path.toArray⟩, .bool l.flag, rv] ∧ Rep.i64.slice.rd w S [rv] l.refs ∧
    (-9223372036854775808 ≤ l.dfn ∧ l.dfn ≤ 9223372036854775807) ∧ (-9223372036854775808 ≤ l.index ∧ l.index ≤ 9223372036854775807) ∧ l.path.length ≤ 9223372036854775807
  len := fun h => by obtain ⟨_, rfl, _⟩ := h; rfl
  keep := fun h hk => by
    obtain ⟨rv, rfl, h, r⟩ := h
    exact ⟨rv, rfl, Rep.i64.slice.keep h hk, r⟩
  more := fun h hk => by
    obtain ⟨rv, rfl, h, r⟩ := h
    exact ⟨rv, rfl, Rep.i64.slice.more h hk, r⟩
  one := fun h u hu => by
    obtain ⟨rv, rfl, h, r⟩ := h
    simp only [List.mem_cons, List.not_mem_nil, or_false] at hu
    rcases hu with rfl | rfl | rfl | rfl | rfl | rfl | rfl
    all_goals first | rfl | exact Rep.i64.slice.one h _ (by simp)

theorem TB : ElemT Try.prog 25 5 (.int .u8 0) 1 1 := ⟨Try.underlying25, by kernel_rfl, rfl, by omega⟩
theorem TI : ElemT Try.prog 40 3 (.int .i64 0) 1 8 := ⟨Try.underlying40, by kernel_rfl, rfl, by omega⟩

@[go_sem] theorem eqSpot (a b : Bool) (i j : Int) (s t : ByteArray) (w : World) : (Op.equalIn 10000 39 (.agg #[.bool a, .int .i64 i, .string s]) (.agg #[.bool b, .int .i64 j, .string t])).run Try.prog w = .ok ((a == b && i == j) && s.toList == t.toList) w := by
  have u3 := Try.underlying3
  have a3 := Try.isAgg3
  have z3 := Try.sizeOf3
  have u4 := Try.underlying4
  have a4 := Try.isAgg4
  have z4 := Try.sizeOf4
  have u9 := Try.underlying9
  have a9 := Try.isAgg9
  have z9 := Try.sizeOf9
  have hS : Try.prog.underlying 39 = some (.struct (Try.prog.fieldsOf 39)) := by kernel_rfl
  have hp : Try.prog.stoodInHeld 39 = false := by kernel_rfl
  rw [show (10000 : Nat) = 9999 + 1 from rfl, run_equalIn_agg w 9999 39 _ _ hS hp]
  simp only [Program.fieldsOf, Try.underlying39]
  go_simp
  by_cases h1 : a = b <;> by_cases h2 : i = j <;> by_cases h3 : s.toList = t.toList <;> simp [h1, h2, h3]
@[go_sem] theorem guardSpot (x y : Operand) (xs ys : Array Value) (w : World) : (eqGuard .eql 39 x y (.agg xs) (.agg ys)).run Try.prog w = .ok () w := run_eqGuard_agg w .eql _ x y xs ys (by kernel_rfl)

def inR (n : Int) : Bool := decide (0 ≤ n) && decide (n ≤ 65535)
def may (l : Line) : Bool :=
  (l.dfn :: l.index :: l.refs).all inR && decide (l.path.length ≤ 3) &&
    (if l.kind = 1 then (!l.cert && l.index == 0 && l.path.isEmpty) && !l.flag && decide (l.refs.length ≤ 16)
     else decide (2 ≤ l.kind.toNat) && decide (l.kind.toNat ≤ 4) && l.dfn == 0 && decide (l.refs.length ≤ 16))

set_option maxHeartbeats 400000 in
theorem may_c (l : Line) (cs : List Value) (w : World) (h : Rep.line.rd w (fun b => b < w.heap.size) cs l) (hn : l.refs.length ≤ 1000000000) :
    Calls Try.prog 26 #[.agg cs.toArray] w fun e w' => e = .returned (.bool (may l)) ∧ Below w.heap.size w w' := by
  obtain ⟨rv, rfl, ⟨A, n, c, he, hs⟩, hd, hi, hp⟩ := h
  obtain rfl : rv = .slice A n c := by simpa using he
  have HL := Lib.hid hs.1
  have hn' : n ≤ 1000000000 := by have := hs.1; omega
  clear he
  go_enter Try.func26, Try.ntmps26
  go_wp2_with (at_builtin; refine halt ?_)
  refine go_on (wpList_appS rfl TI _ _ rfl (by rfl) (own_lit (base := w.heap.size) (S := fun b => b < w.heap.size) _ [l.dfn, l.index] ?_ rfl ?_ ?_ rfl ?_ (rd_cons (r := Rep.i64) (cs := [_]) ⟨rfl, hd⟩ (rd_one (r := Rep.i64) ⟨rfl, hi⟩))) rfl (Rep.sl_below hs ?_ (fun _ h => h)) ?_ ?_ ?_ ?_ ?_)
  rotate_right
  · intro v1 w1 hown1 hg1 hat1
    have hB : Below w.heap.size w w1 := Below.grown (Below.alloc (Below.alloc (Below.refl _ _) (Nat.le_refl _) _) (by simp) _) hg1 (by simp; omega) (by simp [Value.ownBlock])
    have hbx := boxed (box_grown (box_alloc (box_new w _ _) _) hg1 (by simp [Value.ownBlock]))
    have hc0 := hbx 0 _ rfl; have hc1 := hbx 1 _ rfl; have hc2 := hbx 2 _ rfl; have hc3 := hbx 3 _ rfl; have hc4 := hbx 4 _ rfl; have hc5 := hbx 5 _ rfl; have hc6 := hbx 6 _ rfl
    clear hbx
    obtain ⟨A1, cp1, rfl, hs1⟩ := Rep.own_sl hown1
    generalize hvs : [l.dfn, l.index] ++ l.refs = vs at *
    have HV := Lib.hid hvs
    clear hvs hown1 hg1 hat1
    have hvl : vs.length ≤ 1000000002 := by have := HV.out; have := congrArg List.length this; simp at this; omega
    go_wp2
    go_loop [4, 15] (fun _ i => ∃ k : Nat, k ≤ vs.length ∧ i = .int .i64 k ∧ Hid ((vs.take k).all inR = true)) (fun _ i => vs.length - (intOf i).toNat)
    case atStart => exact ⟨0, Nat.zero_le _, rfl, rfl⟩
    case round =>
      obtain ⟨k, hk, rfl, hall⟩ := hrel
      by_cases hlt : k < vs.length
      · obtain ⟨b, o, x, es, rfl, hb, hx, ⟨rfl, hxr⟩, hc⟩ := Rep.sl_at hs1 hlt
        have hcx := hc 0 _ rfl
        simp [Rep.i64] at hcx
        clear hc
        have HX := Lib.hid hx
        clear hx
        by_cases hin : inR x = true
        · have HR : Hid ((vs.take (k + 1)).all inR = true) := by
            show _ = _
            rw [List.take_add_one, HX.out]
            simp [hall.out, hin]
          simp [inR] at hin
          go_wp2
          go_round
          case rel => exact ⟨k + 1, by omega, by go_num, HR⟩
          case measure => simp [intOf]; omega
        · have HR : Hid (may l = false) := by
            show _ = _
            have h1 : (l.dfn :: l.index :: l.refs).all inR = false := by
              have e : l.dfn :: l.index :: l.refs = vs := HV.out
              rw [e, List.all_eq_false]
              exact ⟨x, List.mem_of_getElem? HX.out, hin⟩
            unfold may
            rw [h1]
            simp
          have hin' : x < 0 ∨ 65535 < x := by simp [inR] at hin; omega
          clear hin
          rcases hin' with hin | hin
          all_goals
            go_wp2
            go_ret
            exact ⟨by rw [HR.out]; rfl, hB⟩
      · have HA : Hid ((l.dfn :: l.index :: l.refs).all inR = true) := by
          show _ = _
          have e : l.dfn :: l.index :: l.refs = vs := HV.out
          have := hall.out
          rw [e, ← this, List.take_of_length_le (by omega)]
        by_cases hpl : l.path.length ≤ 3
        · by_cases hk1 : l.kind = 1
          · have h1 : ((l.kind.toNat : Int) == 1) = true := by rw [hk1]; rfl
            have HM : Hid (may l = ((!l.cert && l.index == 0 && l.path.isEmpty) && !l.flag && decide (l.refs.length ≤ 16))) := by
              show _ = _
              unfold may
              rw [HA.out, if_pos hk1]
              simp [hpl]
            have HL' := HL.out
            clear hk1
            go_wp2
            all_goals
              go_ret
              refine ⟨ret_bool ?_, hB⟩
              rw [HM.out]
              first | (simp [*]; done) | (simp [*]; omega) | (rw [Bool.eq_iff_iff]; simp [*]; omega) | (rw [Bool.eq_iff_iff]; simp [*]; done)
          · have h1 : ((l.kind.toNat : Int) == 1) = false := by
              simp only [beq_eq_false_iff_ne, ne_eq]
              intro e
              exact hk1 (UInt8.toNat_inj.1 (by simp; omega))
            have HM : Hid (may l = (decide (2 ≤ l.kind.toNat) && decide (l.kind.toNat ≤ 4) && l.dfn == 0 && decide (l.refs.length ≤ 16))) := by
              show _ = _
              unfold may
              rw [HA.out, if_neg hk1]
              simp [hpl]
            have HL' := HL.out
            clear hk1
            go_wp2
            all_goals
              go_ret
              refine ⟨ret_bool ?_, hB⟩
              rw [HM.out]
              first | (simp [*]; done) | (simp [*]; omega) | (rw [Bool.eq_iff_iff]; simp [*]; omega) | (rw [Bool.eq_iff_iff]; simp [*]; done)
        · have HM : Hid (may l = false) := by
            show _ = _
            unfold may
            rw [HA.out]
            simp [hpl]
          go_wp2
          go_ret
          exact ⟨by rw [HM.out]; rfl, hB⟩
  all_goals first | (with_reducible rfl) | omega | (simp; done) | (simp; omega) | (intro b hb; (try dsimp only at hb); simp; omega) | (intro b hb; (try dsimp only at hb); simp [Value.ownBlock]; omega) | go_grown

/-- Two bytes of a number. -/
def twoB (n : Int) : List UInt8 := [ub (n / 256), ub (n % 256)]
def bitB (b : Bool) : UInt8 := if b then 1 else 0

theorem bit_c (b : Bool) (v : Value) (base : Nat) (xs : List UInt8) (w : World) (hown : Rep.u8.own 5 w base (fun _ => False) v xs) (hn : xs.length ≤ 1000000000) (hb : base ≤ w.heap.size) :
    Calls Try.prog 28 #[v, .bool b] w (AppPost Rep.u8 5 w base v (xs ++ [bitB b])) := by
  cases b
  · go_enter Try.func28, Try.ntmps28
    go_wp2_with (at_builtin; refine halt ?_)
    refine go_on (wpList_app1 rfl TB _ _ rfl (by rfl) (Rep.own_later hown (by first | (with_reducible rfl) | omega | (simp; done) | (simp; omega) | (intro b hb; (try dsimp only at hb); simp; omega) | (intro b hb; (try dsimp only at hb); simp [Value.ownBlock]; omega) | (intro b hb; exact hb.elim) | (go_grown; done))) [_] (bitB false) rfl (cell_one_new _ _ _) rfl (by first | (with_reducible rfl) | omega | (simp; done) | (simp; omega) | (intro b hb; (try dsimp only at hb); simp; omega) | (intro b hb; (try dsimp only at hb); simp [Value.ownBlock]; omega) | (intro b hb; exact hb.elim) | (go_grown; done)) (by first | (with_reducible rfl) | omega | (simp; done) | (simp; omega) | (intro b hb; (try dsimp only at hb); simp; omega) | (intro b hb; (try dsimp only at hb); simp [Value.ownBlock]; omega) | (intro b hb; exact hb.elim) | (go_grown; done)) (by first | (with_reducible rfl) | omega | (simp; done) | (simp; omega) | (intro b hb; (try dsimp only at hb); simp; omega) | (intro b hb; (try dsimp only at hb); simp [Value.ownBlock]; omega) | (intro b hb; exact hb.elim) | (go_grown; done)) (by first | (with_reducible rfl) | omega | (simp; done) | (simp; omega) | (intro b hb; (try dsimp only at hb); simp; omega) | (intro b hb; (try dsimp only at hb); simp [Value.ownBlock]; omega) | (intro b hb; exact hb.elim) | (go_grown; done)) ?_)
    intro v1 w1 hown1 hg1 hat1
    go_wp2
    go_ret
    exact ⟨v1, rfl, hown1, grownBy_trans (World.grownBy_alloc _ _ _) hg1⟩
  · go_enter Try.func28, Try.ntmps28
    go_wp2_with (at_builtin; refine halt ?_)
    refine go_on (wpList_app1 rfl TB _ _ rfl (by rfl) (Rep.own_later hown (by first | (with_reducible rfl) | omega | (simp; done) | (simp; omega) | (intro b hb; (try dsimp only at hb); simp; omega) | (intro b hb; (try dsimp only at hb); simp [Value.ownBlock]; omega) | (intro b hb; exact hb.elim) | (go_grown; done))) [_] (bitB true) rfl (cell_one_new _ _ _) rfl (by first | (with_reducible rfl) | omega | (simp; done) | (simp; omega) | (intro b hb; (try dsimp only at hb); simp; omega) | (intro b hb; (try dsimp only at hb); simp [Value.ownBlock]; omega) | (intro b hb; exact hb.elim) | (go_grown; done)) (by first | (with_reducible rfl) | omega | (simp; done) | (simp; omega) | (intro b hb; (try dsimp only at hb); simp; omega) | (intro b hb; (try dsimp only at hb); simp [Value.ownBlock]; omega) | (intro b hb; exact hb.elim) | (go_grown; done)) (by first | (with_reducible rfl) | omega | (simp; done) | (simp; omega) | (intro b hb; (try dsimp only at hb); simp; omega) | (intro b hb; (try dsimp only at hb); simp [Value.ownBlock]; omega) | (intro b hb; exact hb.elim) | (go_grown; done)) (by first | (with_reducible rfl) | omega | (simp; done) | (simp; omega) | (intro b hb; (try dsimp only at hb); simp; omega) | (intro b hb; (try dsimp only at hb); simp [Value.ownBlock]; omega) | (intro b hb; exact hb.elim) | (go_grown; done)) ?_)
    intro v1 w1 hown1 hg1 hat1
    go_wp2
    go_ret
    exact ⟨v1, rfl, hown1, grownBy_trans (World.grownBy_alloc _ _ _) hg1⟩

theorem wide_c (k : Int) (v : Value) (base : Nat) (xs : List UInt8) (w : World) (hown : Rep.u8.own 5 w base (fun _ => False) v xs) (hn : xs.length ≤ 1000000000) (hb : base ≤ w.heap.size) (hk0 : 0 ≤ k) (hk1 : k ≤ 65535) :
    Calls Try.prog 27 #[v, .int .i64 k] w (AppPost Rep.u8 5 w base v (xs ++ twoB k)) := by
  have e1 := ub_val (k := k / 256) (by omega) (by omega)
  have e2 := ub_val (k := k % 256) (by omega) (by omega)
  have E1 := Lib.hid e1
  have E2 := Lib.hid e2
  clear e1 e2
  go_enter Try.func27, Try.ntmps27
  go_wp2_with (at_builtin; refine halt ?_)
  refine go_on (wpList_appL rfl TB _ _ rfl (by rfl) (Rep.own_later hown (by first | (with_reducible rfl) | omega | (simp; done) | (simp; omega) | (intro b hb; (try dsimp only at hb); simp; omega) | (intro b hb; (try dsimp only at hb); simp [Value.ownBlock]; omega) | (intro b hb; exact hb.elim) | (go_grown; done))) [_, _] (twoB k) rfl (cell_two_new _ _ _ _) rfl rfl (rd_cons (r := Rep.u8) (cs := [_]) ?_ (rd_one ?_)) (by simp [Value.oneCell']) (by first | (with_reducible rfl) | omega | (simp; done) | (simp; omega) | (intro b hb; (try dsimp only at hb); simp; omega) | (intro b hb; (try dsimp only at hb); simp [Value.ownBlock]; omega) | (intro b hb; exact hb.elim) | (go_grown; done)) (by first | (with_reducible rfl) | omega | (simp; done) | (simp; omega) | (intro b hb; (try dsimp only at hb); simp; omega) | (intro b hb; (try dsimp only at hb); simp [Value.ownBlock]; omega) | (intro b hb; exact hb.elim) | (go_grown; done)) (by first | (with_reducible rfl) | omega | (simp; done) | (simp; omega) | (intro b hb; (try dsimp only at hb); simp; omega) | (intro b hb; (try dsimp only at hb); simp [Value.ownBlock]; omega) | (intro b hb; exact hb.elim) | (go_grown; done)) (by first | (with_reducible rfl) | omega | (simp; done) | (simp; omega) | (intro b hb; (try dsimp only at hb); simp; omega) | (intro b hb; (try dsimp only at hb); simp [Value.ownBlock]; omega) | (intro b hb; exact hb.elim) | (go_grown; done)) ?_)
  rotate_right
  · intro v1 w1 hown1 hg1 hat1
    go_wp2
    go_ret
    exact ⟨v1, rfl, hown1, grownBy_trans (World.grownBy_alloc _ _ _) hg1⟩
  · simp only [Rep.u8, E1.out]
  · simp only [Rep.u8, E2.out]
end Go.Proofs.Ytkgkbaicjpgljaa
