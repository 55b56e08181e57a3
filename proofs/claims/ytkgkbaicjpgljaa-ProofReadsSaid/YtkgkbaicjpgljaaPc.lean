/- The package proof: 'two rows' bytes'. -/
import Derived.Test.YtkgkbaicjpgljaaPb
import Derived.Test.YtkgkbaicjpgljaaO
import Derived.Test.YtkgkbaicjpgljaaV
namespace Go.Proofs.Ytkgkbaicjpgljaa
open Go.RowKit

def greatL (ls : List Line) : Bool := decide (300 < ls.length) || ls.any fun l => decide (40 < l.refs.length) || decide (300 < l.path.length)

set_option maxHeartbeats 400000 in
theorem great_c (ls : List Line) (A : Option Addr) (n c : Nat) (w : World) (hs : Rep.line.sl w (fun b => b < w.heap.size) A n c ls) :
    Calls Try.prog 11 #[.slice A n c] w fun e w' => e = .returned (.bool (greatL ls)) ∧ w = w' := by
  have HL := Lib.hid hs.1
  have hnm : n ≤ 9223372036854775807 := by have := hs.2.1; have := hs.2.2.1; omega
  by_cases hg : 300 < n
  · have HG : Hid (greatL ls = true) := by
      show _ = _
      unfold greatL
      rw [HL.out]
      simp [hg]
    go_enter Try.func11, Try.ntmps11
    go_wp2
    go_ret
    exact ⟨by rw [HG.out]; rfl, rfl⟩
  · go_enter Try.func11, Try.ntmps11
    go_wp2
    go_loop [9] (fun i => ∃ k : Nat, k ≤ n ∧ i = .int .i64 k ∧ Hid ((ls.take k).any (fun l => decide (40 < l.refs.length) || decide (300 < l.path.length)) = false)) (fun i => n - (intOf i).toNat)
    case atStart => exact ⟨0, Nat.zero_le _, rfl, rfl⟩
    case round =>
      obtain ⟨k, hk, rfl, hall⟩ := hrel
      by_cases hlt : k < n
      · obtain ⟨b, o, x, es, rfl, hb, hx, ⟨rv, rfl, ⟨A1, n1, c1, he, hs1⟩, hd, hi, hp⟩, hc⟩ := Rep.sl_at hs hlt
        obtain rfl : rv = .slice A1 n1 c1 := by simpa using he
        simp only [Rep.line] at hc
        have hc4 := hc 4 _ rfl
        have hc6 := hc 6 _ rfl
        have HX := Lib.hid hx
        have hn1 := hs1.1
        have HN := Lib.hid hn1
        clear hc hx he
        have hit : ∀ y, (40 < n1 ∨ 300 < x.path.length ↔ y = true) → Hid ((ls.take (k + 1)).any (fun l => decide (40 < l.refs.length) || decide (300 < l.path.length)) = y) := by
          intro y hy
          show _ = _
          rw [List.take_add_one, HX.out, List.any_append, hall.out, Bool.eq_iff_iff, ← hy]
          simp [HN.out]
        have hthru : ∀ y, Hid ((ls.take (k + 1)).any (fun l => decide (40 < l.refs.length) || decide (300 < l.path.length)) = y) → y = true → Hid (greatL ls = true) := by
          intro y hy hyt
          show _ = _
          unfold greatL
          rw [Bool.or_eq_true]
          right
          have := hy.out
          rw [hyt, List.any_eq_true] at this
          obtain ⟨l, hl, hl2⟩ := this
          exact List.any_eq_true.2 ⟨l, List.mem_of_mem_take hl, hl2⟩
        have HIT := Lib.hid hit
        have HTH := Lib.hid hthru
        clear hit hthru hn1
        by_cases h1 : 40 < n1
        · have HG := HTH.out true (HIT.out true (by simp [h1])) rfl
          go_wp2
          go_ret
          exact ⟨by rw [HG.out]; rfl, rfl⟩
        · by_cases h2 : 300 < x.path.length
          · have HG := HTH.out true (HIT.out true (by simp [h2])) rfl
            go_wp2
            go_ret
            exact ⟨by rw [HG.out]; rfl, rfl⟩
          · have HG := HIT.out false (by simp; omega)
            go_wp2
            go_round
            case rel => exact ⟨k + 1, by omega, by go_num, HG⟩
            case measure => simp [intOf]; omega
      · have HG : Hid (greatL ls = false) := by
          show _ = _
          unfold greatL
          have h := hall.out
          have := HL.out
          rw [List.take_of_length_le (by omega)] at h
          rw [h]
          simp
          omega
        go_wp2
        go_ret
        exact ⟨by rw [HG.out]; rfl, rfl⟩

def exLine : Line := ⟨1, 1, false, 0, [], false, []⟩
theorem putB_ex : putB [exLine] = some [1, 0, 1, 0] := by decide

set_option maxHeartbeats 400000 in
theorem awake_c (w : World) : Calls Try.prog 12 #[] w fun e w' => e = .returned (.bool true) ∧ Below w.heap.size w w' := by
  go_enter Try.func12, Try.ntmps12
  go_wp2_with fail
  refine Calls.mono (put_c [exLine] _ _ _ _ (sl_box (S := fun b => b < _) (box_new _ _ _) ?_ rfl ?_ ?_ (rd_one (r := Rep.line) ⟨_, rfl, ⟨none, 0, 0, rfl, Rep.sl_nil⟩, by decide, by decide, by decide⟩)) ?_ ?_) ?_
  rotate_right
  · rintro e w1 ⟨hb, ⟨h, _⟩ | ⟨bs, v, h, rfl, hown⟩⟩
    · rw [putB_ex] at h
      cases h
    · rw [putB_ex] at h
      obtain rfl : [1, 0, 1, 0] = bs := by injection h
      obtain ⟨A, c, rfl, hsl⟩ := Rep.own_sl hown
      have hcv : (convert 25 9 (.slice A 4 c)).run Try.prog w1 = .ok (.string ⟨#[1, 0, 1, 0]⟩) w1 := conv_bs Try.underlying25 Try.underlying5 Try.underlying9 hsl
      have hB : Below w.heap.size w w1 := ((Below.refl _ _).alloc (Nat.le_refl _) _).trans (hb.mono (by simp))
      clear h hb hown hsl
      go_wp2
      go_ret
      exact ⟨rfl, hB⟩
  all_goals first | (intro l hl; simp at hl; subst hl; decide) | skip
  all_goals first | (with_reducible rfl) | omega | (simp; done) | (simp; omega) | (intro b hb; (try dsimp only at hb); simp; omega) | (intro b hb; (try dsimp only at hb); simp [Value.ownBlock]; omega) | go_grown
end Go.Proofs.Ytkgkbaicjpgljaa
