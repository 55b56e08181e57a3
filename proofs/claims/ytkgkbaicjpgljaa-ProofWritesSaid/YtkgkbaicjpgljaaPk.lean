/- The package proof: the walk of 'the bytes of any lines, or the error, are the document's'. -/
import Derived.Test.YtkgkbaicjpgljaaPj
import Derived.Test.YtkgkbaicjpgljaaPp
namespace Go.Proofs.Ytkgkbaicjpgljaa
open Go.RowKit
set_option linter.unusedVariables false

set_option maxRecDepth 100000 in
set_option maxHeartbeats 1000000 in
theorem writes_c (a : List Line) (A : Option Addr) (n c : Nat) (w : World) (ha : Rep.line.sl w (fun b => b < w.heap.size) A n c a) :
    Calls Try.prog 4 #[.slice A n c] w fun e w' => e = .returned (.bool true) ∧ Below w.heap.size w w' := by
  have HNA := Lib.hid ha.1
  by_cases hga : greatL a = true
  · go_enter Try.func4, Try.ntmps4
    go_wp2_with fail
    refine Calls.mono (great_c a _ _ _ _ ha) ?_
    rintro e w1 ⟨rfl, rfl⟩
    go_wp2_with fail
    refine Calls.mono (awake_c _) ?_
    rintro e w1 ⟨rfl, hB⟩
    go_wp2_with fail
    go_ret
    exact ⟨rfl, hB⟩
  · have hga' : greatL a = false := by simpa using hga
    have HGA := Lib.hid (not_great hga')
    have hn3 : n ≤ 300 := by have := HNA.out; have := HGA.out.1; omega
    clear hga
    go_enter Try.func4, Try.ntmps4
    go_wp2_with fail
    refine Calls.mono (great_c a _ _ _ _ ha) ?_
    rintro e w1 ⟨rfl, rfl⟩
    go_wp2_with fail
    refine Calls.mono (put_u a _ _ _ _ ha (by omega) (fun l hl => by have := (HGA.out.2 l hl).1; omega)) ?_
    rintro e w1 ⟨v1, e1, rfl, hB1, hP1⟩
    have HR1 := Lib.hid hP1
    have hsz1 := hB1.size
    clear hP1 hga'
    go_wp2_with fail
    refine Calls.mono (putref_c a _ _ _ _ (Rep.sl_more (Rep.sl_below ha hB1 (fun _ h => h)) (fun b (hb : b < w.heap.size) => by omega)) (by omega) (fun l hl => by have := (HGA.out.2 l hl).1; omega)) ?_
    rintro e w2 ⟨v2, rfl, hB2, hP2⟩
    have hB2' := hB1.trans (hB2.mono hsz1)
    have hsz2 := hB2'.size
    rcases HR1.out with ⟨hP, rfl, rfl⟩ | ⟨bs, hP, rfl, hox⟩
    · clear hP2
      go_wp2_with fail
      refine Calls.mono (awake_c _) ?_
      rintro e w6 ⟨rfl, hB6⟩
      go_wp2_with fail
      go_ret
      exact ⟨rfl, hB2'.trans (hB6.mono hsz2)⟩
    · have hoy := hP2 bs hP
      have hgp := getB_putB hP
      have lx := putB_len (a := a) (by have := HGA.out.1; omega) hP
      obtain ⟨A1, c1, rfl, hsx⟩ := Rep.own_sl (Rep.own_later hox hB2)
      obtain ⟨A2, c2, rfl, hsy⟩ := Rep.own_sl hoy
      have HGP := Lib.hid hgp
      have hox2 := Rep.own_later hox hB2
      have hss : (putB a).isSome = true := by rw [hP]; rfl
      have hsx' := Rep.sl_more (S' := fun b => b < w2.heap.size) hsx (fun b hb => by
        rcases hb with hb | hb
        · exact hb.elim
        · exact (Rep.own_lt hox2 _ hb).2)
      clear hP2 hP hgp hsx hsy
      go_wp2_with fail
      refine Calls.mono (get_c bs _ _ _ _ hsx' (by omega)) ?_
      rintro e w3 ⟨hB3, ⟨hg, _⟩ | ⟨ls, A3, c3, hg, rfl, hsl⟩⟩
      · rw [HGP.out] at hg
        cases hg
      · rw [HGP.out] at hg
        obtain rfl : a = ls := by injection hg
        have hB3' := hB2'.trans (hB3.mono hsz2)
        have hsz3 := hB3'.size
        obtain ⟨A4, c4, e4, hsz4⟩ := Rep.own_sl (Rep.own_later hox2 hB3)
        obtain ⟨A5, c5, e5, hsz5⟩ := Rep.own_sl (Rep.own_later hoy hB3)
        simp only [Value.slice.injEq] at e4 e5
        obtain ⟨rfl, _, rfl⟩ := e4
        obtain ⟨rfl, _, rfl⟩ := e5
        have k1 := conv_bs Try.underlying25 Try.underlying5 Try.underlying9 hsz4
        have k2 := conv_bs Try.underlying25 Try.underlying5 Try.underlying9 hsz5
        have ha3 := Rep.sl_more (S' := fun b => b < w3.heap.size) (Rep.sl_below ha hB3' (fun _ h => h)) (fun b (hb : b < w.heap.size) => by omega)
        have hnl : a.length = n := HNA.out
        rw [hnl] at hsl
        clear hsz4 hsz5 hg hox hox2 hoy hsx' ha
        rw [hnl]
        clear hnl
        go_wp2_with fail
        refine Calls.mono (sameall_c a _ _ _ _ _ _ hsl ha3) ?_
        rintro e w4 ⟨rfl, hB4⟩
        have hB4' := hB3'.trans (hB4.mono hsz3)
        have hsz4 := hB4'.size
        clear k1 k2 hsl ha3
        go_wp2_with fail
        refine Calls.mono (awake_c _) ?_
        rintro e w6 ⟨rfl, hB6⟩
        go_wp2_with fail
        go_ret
        exact ⟨rfl, hB4'.trans (hB6.mono hsz4)⟩
end Go.Proofs.Ytkgkbaicjpgljaa
