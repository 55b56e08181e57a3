/- The package proof: the walk of 'the lines of any bytes, or the error, are the document's; they are put as they stood'. -/
import Derived.Test.YtkgkbaicjpgljaaPx
namespace Go.Proofs.Ytkgkbaicjpgljaa
open Go.RowKit
set_option linter.unusedVariables false

theorem getB_short {b : List UInt8} {ls : List Line} (h : getB b = some ls) : ls.length ≤ 20000 ∧ ∀ l ∈ ls, l.refs.length ≤ 16 := by
  have hp := putB_getB h
  unfold putB at hp
  split at hp
  · rename_i hh
    refine ⟨hh.1, fun l hl => ?_⟩
    have := List.all_eq_true.1 hh.2 l hl
    exact (may_facts this).2.2.2.2
  · cases hp

set_option maxRecDepth 100000 in
set_option maxHeartbeats 1000000 in
theorem reads_c' (hget : ∀ (b : List UInt8) (A : Option Addr) (n c : Nat) (w : World) (hs : Rep.u8.sl w (fun x => x < w.heap.size) A n c b) (hn0 : 0 < n) (hn : n ≤ 1000000000), Calls Try.prog 33 #[.slice A n c] w (GetR b w))
    (a : List UInt8) (A : Option Addr) (n c : Nat) (w : World) (ha : Rep.u8.sl w (fun b => b < w.heap.size) A n c a) :
    Calls Try.prog 5 #[.slice A n c] w fun e w' => e = .returned (.bool true) ∧ Below w.heap.size w w' := by
  have HNA := Lib.hid ha.1
  have HGET := Lib.hid hget
  clear hget
  by_cases hn : 5000 < n
  · go_enter Try.func5, Try.ntmps5
    go_wp2_with fail
    refine Calls.mono (awake_c _) ?_
    rintro e w1 ⟨rfl, hB⟩
    go_wp2_with fail
    go_ret
    exact ⟨rfl, hB⟩
  · go_enter Try.func5, Try.ntmps5
    go_wp2_with fail
    refine Calls.mono (get_c a _ _ _ _ ha (by omega)) ?_
    rintro e w1 ⟨hB1, ⟨hg, rfl⟩ | ⟨ls, A1, c1, hg, rfl, hsl⟩⟩
    · have hsz1 := hB1.size
      have HG := Lib.hid (refGet_getB a)
      have HG2 := Lib.hid hg
      clear hg
      go_wp2_with fail
      refine Calls.mono (refget_c a _ _ _ _ (Rep.sl_more (Rep.sl_below ha hB1 (fun _ h => h)) (fun b (hb : b < w.heap.size) => by omega)) (by omega) HGET.out) ?_
      rintro e w2 ⟨hB2, ⟨_, v, rfl⟩ | ⟨ls, A2, c2, h2, _⟩⟩
      · have hB2' := hB1.trans (hB2.mono hsz1)
        have hsz2 := hB2'.size
        go_wp2_with fail
        refine Calls.mono (awake_c _) ?_
        rintro e w6 ⟨rfl, hB6⟩
        go_wp2_with fail
        go_ret
        exact ⟨rfl, hB2'.trans (hB6.mono hsz2)⟩
      · rw [HG.out, HG2.out] at h2
        cases h2
    · have hsz1 := hB1.size
      have HG := Lib.hid (refGet_getB a)
      have HG2 := Lib.hid hg
      have HP := Lib.hid (putB_getB hg)
      obtain ⟨hll, hlr⟩ := getB_short hg
      have HLR := Lib.hid hlr
      clear hg hlr
      go_wp2_with fail
      refine Calls.mono (refget_c a _ _ _ _ (Rep.sl_more (Rep.sl_below ha hB1 (fun _ h => h)) (fun b (hb : b < w.heap.size) => by omega)) (by omega) HGET.out) ?_
      rintro e w2 ⟨hB2, ⟨h2, _⟩ | ⟨ms, A2, c2, h2, rfl, hsm⟩⟩
      · rw [HG.out, HG2.out] at h2
        cases h2
      · rw [HG.out, HG2.out] at h2
        obtain rfl : ls = ms := by injection h2
        clear h2
        have hB2' := hB1.trans (hB2.mono hsz1)
        have hsz2 := hB2'.size
        have hsz12 := hB2.size
        have hsl2 := Rep.sl_more (S' := fun b => b < w2.heap.size) (Rep.sl_below hsl hB2 (fun _ h => h)) (fun b (hb : b < w1.heap.size) => by omega)
        clear hsl
        go_wp2_with fail
        refine Calls.mono (put_u ls _ _ _ _ hsl2 (by omega) (fun l hl => by have := HLR.out l hl; omega)) ?_
        rintro e w3 ⟨v1, e1, rfl, hB3, hP3⟩
        rcases hP3 with ⟨hP, rfl, rfl⟩ | ⟨bs, hP, rfl, hox⟩
        · have := HP.out
          rw [hP] at this
          cases this
        · obtain rfl : bs = a := by have := HP.out; rw [hP] at this; injection this
          clear hP
          have hB3' := hB2'.trans (hB3.mono hsz2)
          have hsz3 := hB3'.size
          have hsz23 := hB3.size
          obtain ⟨A4, c4, rfl, hs4⟩ := Rep.own_sl hox
          have hsl3 := Rep.sl_more (S' := fun b => b < w3.heap.size) (Rep.sl_below hsl2 hB3 (fun _ h => h)) (fun b (hb : b < w2.heap.size) => by omega)
          have hsm3 := Rep.sl_more (S' := fun b => b < w3.heap.size) (Rep.sl_below hsm hB3 (fun _ h => h)) (fun b (hb : b < w2.heap.size) => by omega)
          clear hsl2 hsm
          go_wp2_with fail
          refine Calls.mono (sameall_c ls _ _ _ _ _ _ hsl3 hsm3) ?_
          rintro e w4 ⟨rfl, hB4⟩
          have hB4' := hB3'.trans (hB4.mono hsz3)
          have hsz4 := hB4'.size
          have hox4 := Rep.own_later hox hB4
          obtain ⟨A5, c5, e5, hs5⟩ := Rep.own_sl hox4
          simp only [Value.slice.injEq] at e5
          obtain ⟨rfl, _, rfl⟩ := e5
          have ha4 := Rep.sl_below ha hB4' (fun _ h => h)
          have k1 := conv_bs Try.underlying25 Try.underlying5 Try.underlying9 hs5
          have k2 := conv_bs Try.underlying25 Try.underlying5 Try.underlying9 ha4
          clear hs4 hs5 hox hox4 ha4 hsl3 hsm3 ha
          go_wp2_with fail
          refine Calls.mono (awake_c _) ?_
          rintro e w6 ⟨rfl, hB6⟩
          go_wp2_with fail
          go_ret
          exact ⟨rfl, hB4'.trans (hB6.mono hsz4)⟩
end Go.Proofs.Ytkgkbaicjpgljaa
