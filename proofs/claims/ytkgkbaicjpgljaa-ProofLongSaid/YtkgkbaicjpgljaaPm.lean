/- The package proof: the walk of 'so many lines as may be are put; one more aren't'. -/
import Derived.Test.YtkgkbaicjpgljaaPc
import Derived.Test.YtkgkbaicjpgljaaPp
import Derived.Test.YtkgkbaicjpgljaaV
namespace Go.Proofs.Ytkgkbaicjpgljaa
open Go.RowKit
set_option linter.unusedVariables false

def nameLine (d : Int) : Line := ⟨1, d, false, 0, [], false, []⟩
theorem may_name {d : Int} (h0 : 0 ≤ d) (h1 : d ≤ 65535) : may (nameLine d) = true := by
  simp [may, nameLine, inR, h0, h1]
theorem lineB_name (d : Int) : (lineB (nameLine d)).length = 4 := rfl
theorem rep_may {d : Int} (h0 : 0 ≤ d) (h1 : d ≤ 65535) (k : Nat) : (List.replicate k (nameLine d)).all may = true := by
  rw [List.all_eq_true]
  intro x hx
  rw [List.mem_replicate] at hx
  rw [hx.2]
  exact may_name h0 h1
theorem rep_len (d : Int) : ∀ k, ((List.replicate k (nameLine d)).flatMap lineB).length = 4 * k
  | 0 => rfl
  | k + 1 => by
    rw [List.replicate_succ, List.flatMap_cons, List.length_append, rep_len d k, lineB_name]
    omega
theorem putB_rep {d : Int} (h0 : 0 ≤ d) (h1 : d ≤ 65535) {ls : List Line} {N : Nat} (hN : N = 20000) (h : ls = List.replicate N (nameLine d)) : ∃ bs, putB ls = some bs ∧ bs.length = 80000 := by
  refine ⟨ls.flatMap lineB, ?_, ?_⟩
  · unfold putB
    rw [if_pos]
    rw [h]
    exact ⟨by rw [List.length_replicate]; omega, rep_may h0 h1 N⟩
  · rw [h, rep_len]
    omega
theorem putB_more {ls : List Line} (x : Line) (h : ls.length = 20000) : putB (ls ++ [x]) = none := by
  unfold putB
  rw [if_neg]
  rintro ⟨h1, _⟩
  rw [List.length_append, List.length_singleton] at h1
  omega
theorem getB_more {ls : List Line} {bs : List UInt8} (hl : ls.length = 20000) (h : putB ls = some bs) : getB (bs ++ [1, 0, 0, 0]) = none := by
  have hn := putB_more (nameLine 0) hl
  unfold putB at h
  split at h
  · rename_i hh
    injection h with h
    have e : bs ++ [1, 0, 0, 0] = (ls ++ [nameLine 0]).flatMap lineB := by
      rw [List.flatMap_append, h]
      rfl
    unfold getB
    rw [e, readAll_put (ls ++ [nameLine 0]) (by rw [List.all_append, hh.2]; rfl) _ [] (Nat.le_refl _) (by rw [List.length_append, List.length_singleton, List.length_nil]; omega)]
    simp only [List.nil_append]
    rw [if_neg]
    rintro ⟨h1, _⟩
    rw [hn] at h1
    cases h1
  · cases h

set_option maxRecDepth 100000 in
set_option maxHeartbeats 1000000 in
theorem long_c (d : Int) (more : Bool) (w : World) (hd : (Lit.int .u16 d).wf = true) :
    Calls Try.prog 6 #[.int .u16 d, .bool more] w fun e w' => e = .returned (.bool true) ∧ Below w.heap.size w w' := by
  have hd2 : 0 ≤ d ∧ d ≤ 65535 := bounds_u16 hd
  obtain ⟨hd0, hd1⟩ := hd2
  clear hd
  go_enter Try.func6, Try.ntmps6
  go_wp2
  go_loopw [5, 6] (fun l i wr => ∃ (k : Nat), k ≤ 20000 ∧ i = .int .i64 k ∧ Rep.line.own 42 wr w.heap.size (fun _ => False) l (List.replicate k (nameLine d)) ∧ Below w.heap.size w wr) (fun _ i _ => 20000 - (intOf i).toNat)
  case atStart => exact ⟨0, Nat.zero_le _, rfl, own_lit (r := Rep.line) #[] [] rfl rfl (Nat.le_refl _) (by omega) rfl (fun _ (h : False) => h.elim) (by simp), (Below.refl _ _).alloc (Nat.le_refl _) _⟩
  case round =>
    obtain ⟨k, hk, rfl, hown, hB⟩ := hrel
    have hsz := hB.size
    by_cases hlt : k < 20000
    · have HRL : Hid (List.replicate k (nameLine d) ++ [nameLine d] = List.replicate (k + 1) (nameLine d)) := (List.replicate_succ' ..).symm
      have hrl : (List.replicate k (nameLine d)).length = k := List.length_replicate
      generalize List.replicate k (nameLine d) = acc at *
      have hal : acc.length ≤ 20000 := by omega
      have HAL := Lib.hid hrl
      clear hrl
      go_wp2_with (at_builtin; refine halt ?_)
      refine go_on (wpList_app1 rfl TL _ _ rfl (by rfl) (Rep.own_later hown (by first | (with_reducible rfl) | omega | (simp; done) | (simp; omega) | (intro b hb; (try dsimp only at hb); simp; omega) | (intro b hb; (try dsimp only at hb); simp [Value.ownBlock]; omega) | (intro b hb; exact hb.elim) | (go_grown; done))) _ (nameLine d) rfl (box_cells (box_new wr _ _)) ⟨_, rfl, ⟨none, 0, 0, rfl, Rep.sl_nil⟩, by simp only [nameLine]; omega, by simp only [nameLine]; omega, by simp [nameLine]⟩ (by first | (with_reducible rfl) | omega | (simp; done) | (simp; omega) | (intro b hb; (try dsimp only at hb); simp; omega) | (intro b hb; (try dsimp only at hb); simp [Value.ownBlock]; omega) | (intro b hb; exact hb.elim) | (go_grown; done)) (by first | (with_reducible rfl) | omega | (simp; done) | (simp; omega) | (intro b hb; (try dsimp only at hb); simp; omega) | (intro b hb; (try dsimp only at hb); simp [Value.ownBlock]; omega) | (intro b hb; exact hb.elim) | (go_grown; done)) (by first | (with_reducible rfl) | omega | (simp; done) | (simp; omega) | (intro b hb; (try dsimp only at hb); simp; omega) | (intro b hb; (try dsimp only at hb); simp [Value.ownBlock]; omega) | (intro b hb; exact hb.elim) | (go_grown; done)) (fun _ (h : False) => h.elim) ?_)
      intro v2 w2 hown2 hg2 _
      have hB2 := below_app (hB.alloc hsz _) (Rep.own_later hown (by first | (with_reducible rfl) | omega | (simp; done) | (simp; omega) | (intro b hb; (try dsimp only at hb); simp; omega) | (intro b hb; (try dsimp only at hb); simp [Value.ownBlock]; omega) | (intro b hb; exact hb.elim) | (go_grown; done))) hg2 (Nat.le_refl _)
      rw [HRL.out] at hown2
      clear hg2 hown
      go_wp2
      go_roundw
      case rel => exact ⟨k + 1, by omega, by go_num, hown2, hB2⟩
      case measure => simp [intOf]; omega
    · have hk2 : k = 20000 := by omega
      obtain ⟨bs, hpb, hbl⟩ := putB_rep hd0 hd1 hk2 rfl
      have HBL := Lib.hid hbl
      have hbl' : bs.length ≤ 80000 := by omega
      have hrl : (List.replicate k (nameLine d)).length = 20000 := by rw [List.length_replicate]; exact hk2
      have HRF : Hid (∀ l ∈ List.replicate k (nameLine d), l.refs.length ≤ 1000000000) := by
        intro l hl
        rw [List.mem_replicate] at hl
        rw [hl.2]
        simp [nameLine]
      have HPM := Lib.hid (putB_more (nameLine 0) hrl)
      have HGM := Lib.hid (getB_more hrl hpb)
      have HGP := Lib.hid (getB_putB hpb)
      have HPB := Lib.hid hpb
      have HRL := Lib.hid hrl
      generalize List.replicate k (nameLine d) = ls at *
      have hll : ls.length ≤ 20000 := by omega
      have hko : ¬ (k : Int) < 20000 := by omega
      clear hpb hbl hrl hlt hk2
      cases more with
      | true =>
        go_wp2_with (at_builtin; refine halt ?_)
        refine go_on (wpList_app1 rfl TL _ _ rfl (by rfl) (Rep.own_later hown (by first | (with_reducible rfl) | omega | (simp; done) | (simp; omega) | (intro b hb; (try dsimp only at hb); simp; omega) | (intro b hb; (try dsimp only at hb); simp [Value.ownBlock]; omega) | (intro b hb; exact hb.elim) | (go_grown; done))) _ (nameLine 0) rfl (box_cells (box_new wr _ _)) ⟨_, rfl, ⟨none, 0, 0, rfl, Rep.sl_nil⟩, by simp only [nameLine]; omega, by simp only [nameLine]; omega, by simp [nameLine]⟩ (by first | (with_reducible rfl) | omega | (simp; done) | (simp; omega) | (intro b hb; (try dsimp only at hb); simp; omega) | (intro b hb; (try dsimp only at hb); simp [Value.ownBlock]; omega) | (intro b hb; exact hb.elim) | (go_grown; done)) (by first | (with_reducible rfl) | omega | (simp; done) | (simp; omega) | (intro b hb; (try dsimp only at hb); simp; omega) | (intro b hb; (try dsimp only at hb); simp [Value.ownBlock]; omega) | (intro b hb; exact hb.elim) | (go_grown; done)) (by first | (with_reducible rfl) | omega | (simp; done) | (simp; omega) | (intro b hb; (try dsimp only at hb); simp; omega) | (intro b hb; (try dsimp only at hb); simp [Value.ownBlock]; omega) | (intro b hb; exact hb.elim) | (go_grown; done)) (fun _ (h : False) => h.elim) ?_)
        intro v2 w2 hown2 hg2 _
        have hB2 := below_app (hB.alloc hsz _) (Rep.own_later hown (by first | (with_reducible rfl) | omega | (simp; done) | (simp; omega) | (intro b hb; (try dsimp only at hb); simp; omega) | (intro b hb; (try dsimp only at hb); simp [Value.ownBlock]; omega) | (intro b hb; exact hb.elim) | (go_grown; done))) hg2 (Nat.le_refl _)
        have hal : (ls ++ [nameLine 0]).length ≤ 20001 := by rw [List.length_append, List.length_singleton]; omega
        have HRF2 : Hid (∀ l ∈ ls ++ [nameLine 0], l.refs.length ≤ 1000000000) := by
          intro l hl
          rcases List.mem_append.1 hl with hl | hl
          · exact HRF.out l hl
          · simp at hl
            subst hl
            simp [nameLine]
        generalize ls ++ [nameLine 0] = ls2 at *
        obtain ⟨A2, c2, rfl, hsl2⟩ := Rep.own_sl hown2
        have hsl3 := Rep.sl_more (S' := fun b => b < w2.heap.size) hsl2 (fun b hb => by
          rcases hb with hb | hb
          · exact hb.elim
          · exact (Rep.own_lt hown2 _ hb).2)
        have hsz2 := hB2.size
        clear hg2 hown hsl2
        go_wp2_with fail
        refine Calls.mono (put_u ls2 _ _ _ _ hsl3 (by omega) HRF2.out) ?_
        rintro e w3 ⟨v3, e3, rfl, hB3, hP3⟩
        have hB3' := hB2.trans (hB3.mono hsz2)
        have hsz3 := hB3'.size
        rcases hP3 with ⟨_, rfl, rfl⟩ | ⟨z, hP, _⟩
        · clear hsl3 hown2
          go_wp2_with fail
          refine Calls.mono (awake_c _) ?_
          rintro e w6 ⟨rfl, hB6⟩
          go_wp2_with fail
          go_ret
          exact ⟨rfl, hB3'.trans (hB6.mono hsz3)⟩
        · rw [HPM.out] at hP
          cases hP
      | false =>
        obtain ⟨A2, c2, rfl, hsl2⟩ := Rep.own_sl hown
        have hsl3 := Rep.sl_more (S' := fun b => b < wr.heap.size) hsl2 (fun b hb => by
          rcases hb with hb | hb
          · exact hb.elim
          · exact (Rep.own_lt hown _ hb).2)
        clear hsl2
        go_wp2_with fail
        refine Calls.mono (put_u ls _ _ _ _ hsl3 (by omega) HRF.out) ?_
        rintro e w3 ⟨v3, e3, rfl, hB3, hP3⟩
        have hB3' := hB.trans (hB3.mono hsz)
        have hsz3 := hB3'.size
        rcases hP3 with ⟨hP, _⟩ | ⟨z, hP, rfl, hoz⟩
        · rw [HPB.out] at hP
          cases hP
        · rw [HPB.out] at hP
          obtain rfl : bs = z := by injection hP
          obtain ⟨A3, c3, rfl, hs3⟩ := Rep.own_sl hoz
          have hs3' := Rep.sl_more (S' := fun b => b < w3.heap.size) hs3 (fun b hb => by
            rcases hb with hb | hb
            · exact hb.elim
            · exact (Rep.own_lt hoz _ hb).2)
          clear hsl3 hown hs3 hP
          go_wp2_with fail
          refine Calls.mono (get_c bs _ _ _ _ hs3' (by omega)) ?_
          rintro e w4 ⟨hB4, ⟨hg, _⟩ | ⟨ls', A4, c4, hg, rfl, _⟩⟩
          · rw [HGP.out] at hg
            cases hg
          · rw [HGP.out] at hg
            obtain rfl : ls = ls' := by injection hg
            have hB4' := hB3'.trans (hB4.mono hsz3)
            have hsz4 := hB4'.size
            have hoz4 := Rep.own_later hoz hB4
            have hszr : wr.heap.size ≤ w4.heap.size := by have := hB3.size; have := hB4.size; omega
            have HZM : Hid (getB (bs ++ [1, 0, 0, 0]) = none) := HGM
            have hzl : (bs ++ [1, 0, 0, 0]).length ≤ 80004 := by rw [List.length_append]; simp; omega
            have hLN := HRL.out
            have hBN := HBL.out
            have HLN := Lib.hid hLN
            have hln2 : ((ls.length : Int) == 20000) = true := by rw [hLN]; rfl
            have hbn2 : ((bs.length : Int) == 80000) = true := by rw [hBN]; rfl
            clear hg hs3' HGM hLN hBN
            go_wp2_with (at_builtin; refine halt ?_)
            refine go_on (wpList_appL rfl TB _ _ rfl (by rfl) (Rep.own_later hoz4 (by first | (with_reducible rfl) | omega | (simp; done) | (simp; omega) | (intro b hb; (try dsimp only at hb); simp; omega) | (intro b hb; (try dsimp only at hb); simp [Value.ownBlock]; omega) | (intro b hb; exact hb.elim) | (go_grown; done))) [_, _, _, _] [1, 0, 0, 0] rfl (box_cells (box_new w4 _ _)) rfl rfl
              (rd_cons (r := Rep.u8) (cs := [_]) rfl (rd_cons (r := Rep.u8) (cs := [_]) rfl (rd_cons (r := Rep.u8) (cs := [_]) rfl (rd_one rfl)))) (by simp [Value.oneCell']) (by first | (with_reducible rfl) | omega | (simp; done) | (simp; omega) | (intro b hb; (try dsimp only at hb); simp; omega) | (intro b hb; (try dsimp only at hb); simp [Value.ownBlock]; omega) | (intro b hb; exact hb.elim) | (go_grown; done)) (by first | (with_reducible rfl) | omega | (simp; done) | (simp; omega) | (intro b hb; (try dsimp only at hb); simp; omega) | (intro b hb; (try dsimp only at hb); simp [Value.ownBlock]; omega) | (intro b hb; exact hb.elim) | (go_grown; done)) (by first | (with_reducible rfl) | omega | (simp; done) | (simp; omega) | (intro b hb; (try dsimp only at hb); simp; omega) | (intro b hb; (try dsimp only at hb); simp [Value.ownBlock]; omega) | (intro b hb; exact hb.elim) | (go_grown; done)) (fun _ (h : False) => h.elim) ?_)
            intro v5 w5 hown5 hg5 _
            generalize bs ++ [1, 0, 0, 0] = zs at *
            have hB5 : Below w.heap.size w w5 := (hB4'.alloc hsz4 _).grown hg5 (by simp; omega) (fun k hk => by have := (Rep.own_lt hoz k hk).1; omega)
            have hsz5 := hB5.size
            obtain ⟨A5, c5, rfl, hs5⟩ := Rep.own_sl hown5
            have hs5' := Rep.sl_more (S' := fun b => b < w5.heap.size) hs5 (fun b hb => by
              rcases hb with hb | hb
              · exact hb.elim
              · exact (Rep.own_lt hown5 _ hb).2)
            clear hs5 hg5 hoz hoz4
            go_wp2_with fail
            refine Calls.mono (get_c zs _ _ _ _ hs5' (by omega)) ?_
            rintro e w6 ⟨hB6, ⟨_, rfl⟩ | ⟨ls', A6, c6, hg, _⟩⟩
            · have hB6' := hB5.trans (hB6.mono hsz5)
              have hsz6 := hB6'.size
              clear hs5' hown5
              go_wp2_with fail
              refine Calls.mono (awake_c _) ?_
              rintro e w7 ⟨rfl, hB7⟩
              go_wp2_with fail
              go_ret
              exact ⟨rfl, hB6'.trans (hB7.mono hsz6)⟩
            · rw [HZM.out] at hg
              cases hg
end Go.Proofs.Ytkgkbaicjpgljaa
