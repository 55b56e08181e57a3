/- The package proof's references: Put; that two rows of lines are the same. -/
import Derived.Test.YtkgkbaicjpgljaaPi
import Derived.Deep.QuietTactic
namespace Go.Proofs.Ytkgkbaicjpgljaa
open Go.RowKit
set_option linter.unusedVariables false

theorem box_at {w : World} {g : Nat} {cs : Array Value} {t : TypeId} (h : g = w.heap.size) : (w.alloc (.cells cs t)).heap[g]? = some (.cells cs t (0, 0)) := by
  subst h
  exact box_new w cs t

def PutRef (ls : List Line) (w : World) (e : Ending) (w' : World) : Prop :=
  ∃ v, e = .returned (.tuple #[v, .bool (putB ls).isSome]) ∧ Below w.heap.size w w' ∧ ∀ bs, putB ls = some bs → Rep.u8.own 5 w' w.heap.size (fun _ => False) v bs

set_option maxRecDepth 100000 in
set_option maxHeartbeats 1000000 in
theorem putref_c (ls : List Line) (A : Option Addr) (n c : Nat) (w : World) (hs : Rep.line.sl w (fun b => b < w.heap.size) A n c ls) (hn : n ≤ 1000000000) (hr : ∀ l ∈ ls, l.refs.length ≤ 1000000000) :
    Calls Try.prog 14 #[.slice A n c] w (PutRef ls w) := by
  have HL := Lib.hid hs.1
  have HR := Lib.hid hr
  clear hr
  by_cases hbig : 20000 < n
  · have HP : Hid (putB ls = none) := by
      show _ = _
      unfold putB
      rw [if_neg]
      rintro ⟨h, _⟩
      have := HL.out
      omega
    go_enter Try.func14, Try.ntmps14
    go_wp2
    go_ret2
    exact ⟨_, by rw [HP.out]; rfl, (Below.refl _ _).alloc (Nat.le_refl _) _, fun bs h => by rw [HP.out] at h; cases h⟩
  · go_enter Try.func14, Try.ntmps14
    go_wp2
    go_loopw [4, 15] (fun out i wr => ∃ (k : Nat), k ≤ n ∧ i = .int .i64 k ∧ Rep.u8.own 5 wr w.heap.size (fun _ => False) out ((ls.take k).flatMap lineB) ∧ Below w.heap.size w wr ∧ Hid ((ls.take k).all may = true)) (fun _ i _ => n - (intOf i).toNat)
    case atStart => exact ⟨0, Nat.zero_le _, rfl, own_lit (r := Rep.u8) #[] [] rfl rfl (Nat.le_refl _) (by omega) rfl (fun _ (h : False) => h.elim) (by simp), (Below.refl _ _).alloc (Nat.le_refl _) _, rfl⟩
    case round =>
      obtain ⟨k, hk, rfl, hown, hB, hall⟩ := hrel
      have hsz := hB.size
      by_cases hlt : k < n
      · obtain ⟨b, o, x, es, rfl, hb, hx, hes, hc⟩ := Rep.sl_at (Rep.sl_below hs hB (fun _ h => h)) hlt
        obtain ⟨rv, rfl, hrest⟩ := id hes
        simp only [Rep.line] at hc
        have hc0 := hc 0 _ rfl; have hc1 := hc 1 _ rfl; have hc2 := hc 2 _ rfl; have hc3 := hc 3 _ rfl; have hc4 := hc 4 _ rfl; have hc5 := hc 5 _ rfl; have hc6 := hc 6 _ rfl
        have HX := Lib.hid hx
        rw [Nat.add_zero] at hc0
        clear hc hx
        go_wp2_with fail
        refine Calls.mono (lineref_c x _ _ (Rep.line.more hes (fun b (hb : b < w.heap.size) => by omega)) (HR.out x (List.mem_of_getElem? HX.out))) ?_
        rintro e w1 ⟨v1, rfl, hb1, ho1⟩
        have hB1 := hB.trans (hb1.mono hsz)
        have hsz1 := hB1.size
        cases hm : may x with
        | false =>
          have HP : Hid (putB ls = none) := by
            show _ = _
            unfold putB
            rw [if_neg]
            rintro ⟨_, h2⟩
            rw [List.all_eq_true] at h2
            have := h2 x (List.mem_of_getElem? HX.out)
            rw [hm] at this
            cases this
          clear ho1 hrest hes
          go_wp2
          go_ret2
          exact ⟨_, by rw [HP.out]; rfl, hB1.alloc hsz1 _, fun bs h => by rw [HP.out] at h; cases h⟩
        | true =>
          have HM := Lib.hid hm
          have ho2 := ho1 hm
          obtain ⟨A2, c2, rfl, hs2⟩ := Rep.own_sl ho2
          have hown1 := Rep.own_later hown hb1
          have hbl := flat_lineB_len _ hall.out k (List.length_take_le _ _)
          have hxl := lineB_len hm
          have HT : Hid ((ls.take k).flatMap lineB ++ lineB x = (ls.take (k + 1)).flatMap lineB) := by
            show _ = _
            rw [List.take_add_one, HX.out]
            simp
          have HA : Hid ((ls.take (k + 1)).all may = true) := by
            show _ = _
            rw [List.take_add_one, HX.out]
            simp [hall.out, hm]
          generalize (ls.take k).flatMap lineB = pre at *
          clear hc0 hc1 hc2 hc3 hc4 hc5 hc6 hrest hes hown ho1 ho2 hm
          go_wp2_with (at_builtin; refine halt ?_)
          refine go_on (wpList_appF rfl flat_u8 TB _ _ rfl (by rfl) hown1 (by rfl) hs2 (by omega) (by omega) hsz1 (fun _ (h : False) => h.elim) ?_)
          intro v3 w3 hown3 hg3 _
          have hB3 := below_app hB1 hown1 hg3 (Nat.le_refl _)
          rw [HT.out] at hown3
          clear hg3 hown1 hs2
          go_wp2
          go_roundw
          case rel => exact ⟨k + 1, by omega, by go_num, hown3, hB3, HA⟩
          case measure => simp [intOf]; omega
      · have HP : Hid (putB ls = some ((ls.take k).flatMap lineB)) := by
          show _ = _
          have := HL.out
          have h2 := hall.out
          rw [List.take_of_length_le (by omega)] at h2 ⊢
          unfold putB
          rw [if_pos ⟨by omega, h2⟩]
        go_wp2
        go_ret2
        exact ⟨_, by rw [HP.out]; rfl, hB, fun bs h => by rw [HP.out] at h; injection h with h; subst h; exact hown⟩

set_option maxRecDepth 100000 in
set_option maxHeartbeats 1000000 in
theorem same_c (l : Line) (cs ds : List Value) (w : World) (h : Rep.line.rd w (fun b => b < w.heap.size) cs l) (h' : Rep.line.rd w (fun b => b < w.heap.size) ds l) :
    Calls Try.prog 32 #[.agg cs.toArray, .agg ds.toArray] w fun e w' => e = .returned (.bool true) ∧ Below w.heap.size w w' := by
  obtain ⟨rv, rfl, ⟨A, n, c, he, hs⟩, hd, hi, hp⟩ := h
  obtain rfl : rv = .slice A n c := by simpa using he
  obtain ⟨rv', rfl, ⟨A', n', c', he', hs'⟩, _, _, _⟩ := h'
  obtain rfl : rv' = .slice A' n' c' := by simpa using he'
  have hnn : n = n' := by rw [← hs.1, ← hs'.1]
  subst hnn
  have hnm : n ≤ 9223372036854775807 := by have := hs.2.1; have := hs.2.2.1; omega
  clear he he'
  go_enter Try.func32, Try.ntmps32
  go_wp2
  go_loopw [44] (fun i wr => ∃ (k : Nat), k ≤ n ∧ i = .int .i64 k ∧ Below w.heap.size w wr ∧
    wr.heap[w.heap.size]? = some (.cells #[.int .u8 (l.kind.toNat : Int), .int .i64 l.dfn, .bool l.cert, .int .i64 l.index, .string ⟨l.path.toArray⟩, .bool l.flag, .slice A n c] 42 (0, 0)) ∧
    wr.heap[w.heap.size + 1]? = some (.cells #[.int .u8 (l.kind.toNat : Int), .int .i64 l.dfn, .bool l.cert, .int .i64 l.index, .string ⟨l.path.toArray⟩, .bool l.flag, .slice A' n c'] 42 (0, 0))) (fun i _ => n - (intOf i).toNat)
  case atStart => exact ⟨0, Nat.zero_le _, rfl, ((Below.refl _ _).alloc (Nat.le_refl _) _).alloc (by simp) _, box_alloc (box_new w _ _) _, box_at (by simp)⟩
  case round =>
    obtain ⟨k, hk, rfl, hB, hb1, hb2⟩ := hrel
    have hc6 := boxed hb1 6 _ rfl
    have hd6 := boxed hb2 6 _ rfl
    by_cases hlt : k < n
    · obtain ⟨b, o, x, es, rfl, hb, hx, ⟨rfl, hxr⟩, hc⟩ := Rep.sl_at (Rep.sl_below hs hB (fun _ h => h)) hlt
      obtain ⟨b', o', x', es', rfl, hb', hx', ⟨rfl, hxr'⟩, hc'⟩ := Rep.sl_at (Rep.sl_below hs' hB (fun _ h => h)) hlt
      have hxx : x = x' := by rw [hx] at hx'; injection hx'
      subst hxx
      have hcx := hc 0 _ rfl
      have hcx' := hc' 0 _ rfl
      simp [Rep.i64] at hcx hcx'
      have hk0 : (0 : Int) ≤ (k : Int) := by omega
      have hk1 : (k : Int) < (n : Int) := by omega
      clear hc hc' hx hx' hs hs'
      go_wp2_with fail
      go_quiet (fail)
      go_wp2
      go_roundw
      case rel => exact ⟨k + 1, by omega, by go_num, ⟨hB.os, hB.tape, hB.output, hB.size, hB.block⟩, hb1, hb2⟩
      case measure => simp [intOf]; omega
    · go_wp2
      go_ret
      exact ⟨rfl, hB⟩

def SameLines (ls : List Line) (w : World) (e : Ending) (w' : World) : Prop := e = .returned (.bool true) ∧ Below w.heap.size w w'
set_option maxRecDepth 100000 in
set_option maxHeartbeats 1000000 in
theorem sameall_c (ls : List Line) (A A' : Option Addr) (n c c' : Nat) (w : World) (hs : Rep.line.sl w (fun b => b < w.heap.size) A n c ls) (hs' : Rep.line.sl w (fun b => b < w.heap.size) A' n c' ls) :
    Calls Try.prog 16 #[.slice A n c, .slice A' n c'] w (SameLines ls w) := by
  have hnm : n ≤ 9223372036854775807 := by have := hs.2.1; have := hs.2.2.1; omega
  go_enter Try.func16, Try.ntmps16
  go_wp2
  go_loopw [13] (fun i wr => ∃ (k : Nat), k ≤ n ∧ i = .int .i64 k ∧ Below w.heap.size w wr) (fun i _ => n - (intOf i).toNat)
  case atStart => exact ⟨0, Nat.zero_le _, rfl, Below.refl _ _⟩
  case round =>
    obtain ⟨k, hk, rfl, hB⟩ := hrel
    have hsz := hB.size
    by_cases hlt : k < n
    · obtain ⟨b, o, x, es, rfl, hb, hx, hes, hc⟩ := Rep.sl_at (Rep.sl_below hs hB (fun _ h => h)) hlt
      obtain ⟨b', o', x', es', rfl, hb', hx', hes', hc'⟩ := Rep.sl_at (Rep.sl_below hs' hB (fun _ h => h)) hlt
      have hxx : x = x' := by rw [hx] at hx'; injection hx'
      subst hxx
      obtain ⟨rv, rfl, hrest⟩ := id hes
      obtain ⟨rv', rfl, hrest'⟩ := id hes'
      simp only [Rep.line] at hc hc'
      have hc0 := hc 0 _ rfl; have hc1 := hc 1 _ rfl; have hc2 := hc 2 _ rfl; have hc3 := hc 3 _ rfl; have hc4 := hc 4 _ rfl; have hc5 := hc 5 _ rfl; have hc6 := hc 6 _ rfl
      have hd0 := hc' 0 _ rfl; have hd1 := hc' 1 _ rfl; have hd2 := hc' 2 _ rfl; have hd3 := hc' 3 _ rfl; have hd4 := hc' 4 _ rfl; have hd5 := hc' 5 _ rfl; have hd6 := hc' 6 _ rfl
      rw [Nat.add_zero] at hc0 hd0
      have hk0 : (0 : Int) ≤ (k : Int) := by omega
      have hk1 : (k : Int) < (n : Int) := by omega
      have hes2 := Rep.line.more hes (fun b (hb : b < w.heap.size) => (by omega : b < wr.heap.size))
      have hes2' := Rep.line.more hes' (fun b (hb : b < w.heap.size) => (by omega : b < wr.heap.size))
      clear hc hc' hx hx' hs hs' hrest hrest' hes hes'
      go_wp2_with fail
      go_region_with ((go_at_call 32; refine Calls.mono (same_c x _ _ _ hes2 hes2') ?_; rintro e w1 ⟨rfl, hb1⟩))
      all_goals
        have hB1 := hB.trans (Below.mono ⟨hb1.os, hb1.tape, hb1.output, hb1.size, hb1.block⟩ hsz)
        clear hc0 hc1 hc2 hc3 hc4 hc5 hc6 hd0 hd1 hd2 hd3 hd4 hd5 hd6 hes2 hes2'
        go_wp2
        go_roundw
        case rel => exact ⟨k + 1, by omega, by go_num, hB1⟩
        case measure => simp [intOf]; omega
    · go_wp2
      go_ret
      exact ⟨rfl, hB⟩
end Go.Proofs.Ytkgkbaicjpgljaa
