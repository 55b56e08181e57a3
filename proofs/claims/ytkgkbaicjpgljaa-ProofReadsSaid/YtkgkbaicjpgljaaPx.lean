/- The reference of the package proof: Get. -/
import Derived.Test.YtkgkbaicjpgljaaPu
namespace Go.Proofs.Ytkgkbaicjpgljaa
open Go.RowKit
set_option linter.unusedVariables false

def GRow (w : World) (base : Nat) (v : Value) (acc : List Line) : Prop :=
  Rep.line.own 42 w base (fun b => base ≤ b ∧ b < w.heap.size ∧ some b ≠ v.ownBlock) v acc

def RGetPost (b : List UInt8) (w : World) (e : Ending) (w' : World) : Prop :=
  Below w.heap.size w w' ∧ ((refGet b = none ∧ ∃ v, e = .returned (.tuple #[v, .bool false])) ∨ ∃ ls A c, refGet b = some ls ∧ e = .returned (.tuple #[.slice A ls.length c, .bool true]) ∧ Rep.line.sl w' (fun b => b < w'.heap.size) A ls.length c ls)

theorem refget_c (b : List UInt8) (A : Option Addr) (n c : Nat) (w : World) (hs : Rep.u8.sl w (fun b => b < w.heap.size) A n c b) (hn : n ≤ 1000000000)
    (getref_c : ∀ (b : List UInt8) (A : Option Addr) (n c : Nat) (w : World) (hs : Rep.u8.sl w (fun x => x < w.heap.size) A n c b) (hn0 : 0 < n) (hn : n ≤ 1000000000), Calls Try.prog 33 #[.slice A n c] w (GetR b w)) :
    Calls Try.prog 17 #[.slice A n c] w (RGetPost b w) := by
  have HN := Lib.hid hs.1
  go_enter Try.func17, Try.ntmps17
  go_wp2
  go_loopw [0, 4] (fun bv l wr => ∃ (m : Nat) (b1 : List UInt8) (acc : List Line) (A1 : Option Addr) (n1 c1 : Nat), Hid (refGet b = refAll m b1 acc) ∧ b1.length ≤ m ∧ acc.length ≤ 20000 ∧ bv = .slice A1 n1 c1 ∧ Rep.u8.sl wr (fun x => x < w.heap.size) A1 n1 c1 b1 ∧ GRow wr w.heap.size l acc ∧ Below w.heap.size w wr ∧ n1 ≤ n) (fun bv _ _ => rlen (some bv))
  case atStart => exact ⟨b.length, b, [], A, n, c, rfl, Nat.le_refl _, by simp, rfl, Rep.sl_below hs (Below.alloc (Below.refl _ _) (Nat.le_refl _) _) (fun _ h => h), Rep.own_more (own_lit (S := fun _ => False) #[] [] rfl rfl (Nat.le_refl _) (by decide) rfl (fun _ h => h.elim) (fun i x h => by simp at h)) (fun _ h => h.elim), Below.alloc (Below.refl _ _) (Nat.le_refl _) _, Nat.le_refl _⟩
  case round =>
    obtain ⟨m, b1, acc, A1, n1, c1, HRA, hm, hac, rfl, hsl, hrow, hB, hn1⟩ := hrel
    have HN1 := Lib.hid hsl.1
    by_cases h0 : n1 = 0
    · have HR : Hid (refGet b = some acc) := by
        show _ = _
        have hz : b1 = [] := List.eq_nil_of_length_eq_zero (by have := HN1.out; omega)
        rw [HRA.out, hz]
        cases m <;> rfl
      obtain ⟨Al, cl, rfl, hlsl⟩ := Rep.own_sl hrow
      have hlt := Rep.own_lt hrow
      have hl0 := Rep.sl_more (S' := fun b => b < wr.heap.size) hlsl (fun b hb => by
        rcases hb with hb | hb
        · exact hb.2.1
        · exact (hlt _ hb).2)
      go_wp2
      refine bodyPost_ret (v := .tuple #[.slice Al acc.length cl, .bool true]) (by simp [results, Try.results17, go_sem]) rfl ?_
      exact ⟨hB, .inr ⟨acc, Al, cl, HR.out, rfl, hl0⟩⟩
    · have hpos : 0 < n1 := by omega
      have hs1 := Rep.sl_more (S' := fun b => b < wr.heap.size) hsl (fun b hb => by have := hB.size; omega)
      cases hL : refL b1 with
      | none =>
        have HR : Hid (refGet b = none) := by
          show _ = _
          rw [HRA.out]
          obtain ⟨m', rfl⟩ : ∃ m', m = m' + 1 := ⟨m - 1, by have := HN1.out; omega⟩
          have hne : ¬ b1 = [] := by rintro rfl; have := HN1.out; simp at this; omega
          rw [refAll, if_neg hne, hL]
        have HL := Lib.hid hL
        clear hL
        go_wp2_with fail
        refine Calls.mono (getref_c b1 A1 n1 c1 _ hs1 hpos (by omega)) ?_
        rintro e w1 ⟨cs, k, ok, rfl, hB1, ⟨_, rfl, k', d', c', i', p', f', A', m', z', rfl⟩ | ⟨l, k, hl, _⟩⟩
        · have hB2 := hB.trans (hB1.mono hB.size)
          have hsz2 : w.heap.size ≤ w1.heap.size := hB2.size
          go_wp2
          refine bodyPost_ret (v := .tuple #[.slice (some ⟨w1.heap.size + 1, 0, none⟩) 0 0, .bool false]) (by simp [results, Try.results17, go_sem]) rfl ?_
          exact ⟨by go_grown, .inl ⟨HR.out, _, rfl⟩⟩
        · have := HL.out
          rw [hl] at this
          cases this
      | some q =>
        obtain ⟨l, k⟩ := q
        have hbl : 0 < b1.length := by have := HN1.out; omega
        obtain ⟨hmay, hkb, hk0, _⟩ := refL_sound hbl hL
        have hne : ¬ b1 = [] := by rintro rfl; simp at hbl
        obtain ⟨m', rfl⟩ : ∃ m', m = m' + 1 := ⟨m - 1, by have := HN1.out; omega⟩
        have HRA2 : Hid (refGet b = if acc.length = 20000 then none else refAll m' (b1.drop k) (acc ++ [l])) := by
          show _ = _
          rw [HRA.out, refAll, if_neg hne, hL]
        have HL := Lib.hid hL
        clear hL
        by_cases hfull : acc.length = 20000
        · have HR : Hid (refGet b = none) := by show _ = _; rw [HRA2.out, if_pos hfull]
          obtain ⟨Al, cl, rfl, hlsl⟩ := Rep.own_sl hrow
          go_wp2_with fail
          refine Calls.mono (getref_c b1 A1 n1 c1 _ hs1 hpos (by omega)) ?_
          rintro e w1 ⟨cs, k2, ok, rfl, hB1, ⟨hl, _⟩ | ⟨l2, k3, hl, rfl, rfl, hrd⟩⟩
          · have := HL.out
            rw [hl] at this
            cases this
          · have hB2 := hB.trans (hB1.mono hB.size)
            obtain ⟨rv, rfl, ⟨A9, n9, c9, he9, hs9⟩, hd9, hi9, hp9⟩ := id hrd
            obtain rfl : rv = .slice A9 n9 c9 := by simpa using he9
            clear he9
            have hsz2 : w.heap.size ≤ w1.heap.size := hB2.size
            go_wp2
            refine bodyPost_ret (v := .tuple #[.slice (some ⟨w1.heap.size + 1, 0, none⟩) 0 0, .bool false]) (by simp [results, Try.results17, go_sem]) rfl ?_
            exact ⟨by go_grown, .inl ⟨HR.out, _, rfl⟩⟩
        · have HR : Hid (refGet b = refAll m' (b1.drop k) (acc ++ [l])) := by show _ = _; rw [HRA2.out, if_neg hfull]
          obtain ⟨Al, cl, rfl, hlsl⟩ := Rep.own_sl hrow
          clear hlsl
          go_wp2_with fail
          refine Calls.mono (getref_c b1 A1 n1 c1 _ hs1 hpos (by omega)) ?_
          rintro e w1 ⟨cs, k2, ok, rfl, hB1, ⟨hl, _⟩ | ⟨l2, k3, hl, rfl, rfl, hrd⟩⟩
          · have := HL.out
            rw [hl] at this
            cases this
          · have := HL.out
            rw [hl] at this
            obtain ⟨rfl, rfl⟩ : l2 = l ∧ k3 = k := by simpa using this
            clear this hl
            have hB2 := hB.trans (hB1.mono hB.size)
            obtain ⟨rv, rfl, ⟨A9, n9, c9, he9, hs9⟩, hd9, hi9, hp9⟩ := id hrd
            obtain rfl : rv = .slice A9 n9 c9 := by simpa using he9
            clear he9
            clear hs9 hd9 hi9 hp9
            have hsz1 := hB1.size
            have hlt := Rep.own_lt hrow
            have ho1 : Rep.line.own 42 w1 w.heap.size (fun b => w.heap.size ≤ b ∧ b < w1.heap.size ∧ some b ≠ (Value.slice Al acc.length cl).ownBlock) (.slice Al acc.length cl) acc :=
              Rep.own_more (Rep.own_kept (row := none) hrow (grownBy_of_below hB1 none) (by cases hv : (Value.slice Al acc.length cl).ownBlock <;> simp) (fun b hb => ⟨hb.2.1, by simp⟩)) (fun b hb => ⟨hb.1, by omega, hb.2.2⟩)
            have hx1 : Rep.line.rd w1 (fun b => w.heap.size ≤ b ∧ b < w1.heap.size ∧ some b ≠ (Value.slice Al acc.length cl).ownBlock) _ l2 := Rep.line.more hrd (fun b hb => ⟨by have := hB.size; omega, hb.2, fun e => by have := (hlt _ e.symm).2; omega⟩)
            have hlt1 := Rep.own_lt ho1
            have hszB := hB2.size
            have hszw := hB.size
            have hkn : k3 ≤ n1 := by have := HN1.out; omega
            have hcut := Rep.sl_cut hsl (k := k3) hkn
            rw [show Rep.u8.size = 1 from rfl, Nat.mul_one] at hcut
            have HC := Lib.hid hcut
            clear hcut hrd hrow
            go_wp2_with (at_builtin; refine halt ?_)
            refine go_on (wpList_app1 rfl TL _ _ rfl (by rfl) (Rep.own_alloc (Rep.own_alloc ho1 _ (fun b hb => hb.2.1)) _ (fun b hb => by have := hb.2.1; simp; omega)) _ l2 rfl (box_cells (box_at (by simp))) (Rep.line.keep hx1 (fun p hp => by rw [World.cell?_alloc_lt _ _ p (by have := hp.2.1; simp; omega), World.cell?_alloc_lt w1 _ p hp.2.1])) (by first | (with_reducible rfl) | omega | (simp; done) | (simp; omega) | (intro b hb; (try dsimp only at hb); simp; omega) | (intro b hb; (try dsimp only at hb); simp [Value.ownBlock]; omega) | (intro b hb; exact hb.elim) | (go_grown; done)) (by first | (with_reducible rfl) | omega | (simp; done) | (simp; omega) | (intro b hb; (try dsimp only at hb); simp; omega) | (intro b hb; (try dsimp only at hb); simp [Value.ownBlock]; omega) | (intro b hb; exact hb.elim) | (go_grown; done)) (by simp; omega) (fun b hb => ⟨by have := hb.2.1; simp; omega, hb.2.2⟩) ?_)
            intro v2 w2 ho2 hg2 hat2
            have hat3 : v2.ownBlock = (Value.slice Al acc.length cl).ownBlock ∨ v2.ownBlock = some (w1.heap.size + 2) := by
              rcases hat2 with h | h
              · exact .inl h
              · exact .inr (by rw [h]; simp)
            have hs2 := hg2.size
            simp only [World.size_alloc] at hs2
            have hrow2 : GRow w2 w.heap.size v2 (acc ++ [l2]) := Rep.own_more ho2 (fun b hb => ⟨hb.1, by have := hb.2.1; omega, fun e => by
              rcases hat3 with h | h
              · rw [h] at e; exact hb.2.2 e
              · rw [h] at e; injection e; have := hb.2.1; omega⟩)
            have hB4 : Below w.heap.size w w2 := ((hB2.alloc hB2.size _).alloc (by simp; omega) _).grown hg2 (by simp; omega) (fun k e => (hlt1 k e).1)
            have hB5 := below_between hB hB4 (by omega)
            have hal : (acc ++ [l2]).length ≤ 20000 := by simp; omega
            have hdl : (b1.drop k3).length ≤ m' := by rw [List.length_drop]; omega
            clear ho1 hx1 hat2 hat3 hB1 hB2 hs1 ho2 hg2
            go_wp2
            go_roundw
            case rel => exact ⟨m', _, acc ++ [l2], _, _, _, HR, hdl, hal, rfl, Rep.sl_below HC.out hB5 (fun _ h => h), hrow2, hB4, by omega⟩
            case measure => simp [rlen]; omega
end Go.Proofs.Ytkgkbaicjpgljaa
