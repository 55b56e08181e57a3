/- The package proof: Get. -/
import Derived.Test.YtkgkbaicjpgljaaPg
import Derived.Test.YtkgkbaicjpgljaaPd
namespace Go.Proofs.Ytkgkbaicjpgljaa
open Go.RowKit
set_option linter.unusedVariables false

theorem equal_c (A B : Option Addr) (n c m d : Nat) (xs ys : List UInt8) (S S' : Nat → Prop) (w : World) (hx : Rep.u8.sl w S A n c xs) (hy : Rep.u8.sl w S' B m d ys) :
    Calls Try.prog 31 #[.slice A n c, .slice B m d] w fun e w' => e = .returned (.bool (decide (xs = ys))) ∧ w = w' := by
  have k1 := conv_bs Try.underlying25 Try.underlying5 Try.underlying9 hx
  have k2 := conv_bs Try.underlying25 Try.underlying5 Try.underlying9 hy
  go_enter Try.func31, Try.ntmps31
  go_wp2
  go_ret
  exact ⟨ret_bool (by rw [Bool.eq_iff_iff]; simp), rfl⟩

def readAll : Nat → List UInt8 × Bool → List Line → List Line × (List UInt8 × Bool)
  | 0, st, acc => (acc, st)
  | n + 1, st, acc => if st.1 = [] ∨ 20000 < acc.length then (acc, st) else readAll n (lineR st).2 (acc ++ [(lineR st).1])
def getB (b : List UInt8) : Option (List Line) :=
  let r := readAll b.length (b, false) []
  if putB r.1 = some b ∧ r.2.2 = false then some r.1 else none

theorem oneR_le (st : List UInt8 × Bool) : (oneR st).2.1.length ≤ st.1.length - 1 := by
  unfold oneR
  split
  · simp
  · rename_i h
    rw [h]
    simp
theorem twoR_le (st : List UInt8 × Bool) : (twoR st).2.1.length ≤ st.1.length := by
  have := oneR_le st
  have := oneR_le (oneR st).2
  show (oneR (oneR st).2).2.1.length ≤ _
  omega
theorem takeR_le (st : List UInt8 × Bool) (n : Nat) : (takeR st n).2.1.length ≤ st.1.length := by
  unfold takeR
  split <;> simp
theorem refsR_le : ∀ (n : Nat) (st : List UInt8 × Bool) (acc : List Int), (refsR n st acc).2.1.length ≤ st.1.length
  | 0, st, acc => Nat.le_refl _
  | n + 1, st, acc => by
    unfold refsR
    split
    · exact Nat.le_refl _
    · exact Nat.le_trans (refsR_le n _ _) (twoR_le st)
theorem refsR_len : ∀ (n : Nat) (st : List UInt8 × Bool) (acc : List Int), (refsR n st acc).1.length ≤ acc.length + n
  | 0, st, acc => by simp [refsR]
  | n + 1, st, acc => by
    unfold refsR
    split
    · simp
    · have := refsR_len n (twoR st).2 (acc ++ [((twoR st).1 : Int)])
      simp at this
      omega
theorem lineR_le (st : List UInt8 × Bool) : (lineR st).2.1.length ≤ st.1.length - 1 := by
  unfold lineR
  dsimp only
  have h1 := oneR_le st
  split
  · have h2 := twoR_le (oneR st).2
    have h3 := oneR_le (twoR (oneR st).2).2
    have h4 := refsR_le (oneR (twoR (oneR st).2).2).1 (oneR (twoR (oneR st).2).2).2 []
    dsimp only
    omega
  · have h2 := oneR_le (oneR st).2
    have h3 := twoR_le (oneR (oneR st).2).2
    generalize (twoR (oneR (oneR st).2).2).2 = s3 at *
    have h4 := oneR_le s3
    have h5 := takeR_le (oneR s3).2 (oneR s3).1
    generalize (takeR (oneR s3).2 (oneR s3).1).2 = s5 at *
    have h6 := oneR_le s5
    have h7 := oneR_le (oneR s5).2
    have h8 := refsR_le (oneR (oneR s5).2).1 (oneR (oneR s5).2).2 []
    dsimp only
    omega
theorem lineR_refs (st : List UInt8 × Bool) : (lineR st).1.refs.length ≤ 255 := by
  unfold lineR
  dsimp only
  split
  · have h := refsR_len (oneR (twoR (oneR st).2).2).1 (oneR (twoR (oneR st).2).2).2 []
    have := oneR_lt (twoR (oneR st).2).2
    simp at h
    dsimp only
    omega
  · generalize (takeR (oneR (twoR (oneR (oneR st).2).2).2).2 (oneR (twoR (oneR (oneR st).2).2).2).1).2 = s5
    have h := refsR_len (oneR (oneR s5).2).1 (oneR (oneR s5).2).2 []
    have := oneR_lt (oneR s5).2
    simp at h
    dsimp only
    omega

theorem readAll_refs : ∀ (n : Nat) (st : List UInt8 × Bool) (acc : List Line), (∀ l ∈ acc, l.refs.length ≤ 255) → ∀ l ∈ (readAll n st acc).1, l.refs.length ≤ 255
  | 0, st, acc, h => h
  | n + 1, st, acc, h => by
    unfold readAll
    split
    · exact h
    · refine readAll_refs n _ _ fun l hl => ?_
      rcases List.mem_append.1 hl with hl | hl
      · exact h l hl
      · simp at hl
        subst hl
        exact lineR_refs st

/-- The row of lines that is being read. -/
def LRow (w : World) (g base : Nat) (v : Value) (acc : List Line) : Prop :=
  Rep.line.own 42 w base (fun b => b < w.heap.size ∧ b ≠ g ∧ some b ≠ v.ownBlock) v acc

def rlen : Option Value → Nat
  | some (.slice _ k _) => k
  | _ => 0

def GetPost (b : List UInt8) (w : World) (e : Ending) (w' : World) : Prop :=
  Below w.heap.size w w' ∧ ((getB b = none ∧ e = .returned (.tuple #[.slice none 0 0, .int .i64 14])) ∨ ∃ ls A c, getB b = some ls ∧ e = .returned (.tuple #[.slice A ls.length c, .int .i64 0]) ∧ Rep.line.sl w' (fun b => b < w'.heap.size) A ls.length c ls)

set_option maxRecDepth 100000 in
set_option maxHeartbeats 1000000 in
theorem get_c (b : List UInt8) (A : Option Addr) (n c : Nat) (w : World) (hs : Rep.u8.sl w (fun b => b < w.heap.size) A n c b) (hn : n ≤ 1000000000) :
    Calls Try.prog 15 #[.slice A n c] w (GetPost b w) := by
  have HN := Lib.hid hs.1
  go_enter Try.func15, Try.ntmps15
  go_wp2
  go_loopw [5] (fun l wr => ∃ (m : Nat) (st : List UInt8 × Bool) (acc : List Line), Hid (readAll b.length (b, false) [] = readAll m st acc) ∧ st.1.length ≤ m ∧ acc.length ≤ 20001 ∧ LRow wr w.heap.size (w.heap.size + 1) l acc ∧ Hid (∀ l ∈ acc, l.refs.length ≤ 255) ∧
    Rdr wr w.heap.size (fun b => b < w.heap.size) st ∧ (w.alloc (.cells #[.slice A n c, .bool false] 61)).grownBy wr (some w.heap.size) ∧ st.1.length ≤ n) (fun _ wr => rlen (wr.cell? ⟨w.heap.size, 0, none⟩))
  case atStart => exact ⟨b.length, (b, false), [], rfl, Nat.le_refl _, by simp, Rep.own_nil, fun l hl => by simp at hl, ⟨A, n, c, box_new w _ _, Rep.sl_grown hs (World.grownBy_alloc w _ none) (fun b hb => ⟨hb, by simp⟩)⟩, World.grownBy.refl _ _, by have := HN.out; simp; omega⟩
  case round =>
    obtain ⟨m, st, acc, HRA, hm, hac, hrow, HRF, ⟨A1, n1, c1, hbx, hsl⟩, hG, hln⟩ := hrel
    have hr : Rdr wr w.heap.size (fun b => b < w.heap.size) st := ⟨A1, n1, c1, hbx, hsl⟩
    have hsz := hG.size
    simp only [World.size_alloc] at hsz
    have hn1 := hsl.1
    have HN1 := Lib.hid hn1
    have hn1' : n1 ≤ 1000000000 := by omega
    obtain ⟨Al, cl, hv, hlsl⟩ := Rep.own_sl hrow
    have hc := boxed hbx
    have hc0 := hc 0 _ rfl; have hc1 := hc 1 _ rfl
    have HM0 : Hid (rlen (wr.cell? ⟨w.heap.size, 0, none⟩) = n1) := by show _ = _; rw [hc0]; rfl
    clear hc hsl hn1 hlsl
    subst hv
    by_cases hgo : 0 < n1 ∧ acc.length ≤ 20000
    · obtain ⟨hg1, hg2⟩ := hgo
      go_wp2_with fail
      refine Calls.mono (line_c st w.heap.size w.heap.size _ hr (Nat.le_refl _) (by omega)) ?_
      rintro e w1 ⟨cs, rfl, hl1, hr1, hg3⟩
      have hle := lineR_le st
      have hrf := lineR_refs st
      have hra : Hid (readAll b.length (b, false) [] = readAll (m - 1) (lineR st).2 (acc ++ [(lineR st).1])) := by
        show _ = _
        rw [HRA.out]
        obtain ⟨m', rfl⟩ : ∃ m', m = m' + 1 := ⟨m - 1, by have := HN1.out; omega⟩
        have hne : ¬ (st.1 = [] ∨ 20000 < acc.length) := by
          rintro (h | h)
          · have := HN1.out
            rw [h] at this
            simp at this
            omega
          · omega
        rw [readAll, if_neg hne]
        rfl
      generalize hq : lineR st = q at *
      have HQ := Lib.hid hq
      clear hq
      obtain ⟨x, st1⟩ := q
      simp only at hl1 hr1 hle hrf
      obtain ⟨rv, rfl, hl2⟩ := id hl1
      have hs1 := hg3.size
      have hlt := Rep.own_lt hrow
      have ho1 : Rep.line.own 42 w1 (w.heap.size + 1) (fun b => b < w1.heap.size ∧ b ≠ w.heap.size ∧ some b ≠ (Value.slice Al acc.length cl).ownBlock) (.slice Al acc.length cl) acc :=
        Rep.own_more (Rep.own_kept hrow hg3 (.inr (fun e => by have := (hlt _ e).1; omega)) (fun b hb => ⟨hb.1, fun e => hb.2.1 (by injection e)⟩)) (fun b hb => ⟨by omega, hb.2.1, hb.2.2⟩)
      have hx1 : Rep.line.rd w1 (fun b => b < w1.heap.size ∧ b ≠ w.heap.size ∧ some b ≠ (Value.slice Al acc.length cl).ownBlock) _ x := Rep.line.more hl1 (fun b hb => ⟨hb.2, by omega, fun e => by have := (hlt _ e.symm).2; omega⟩)
      have hG1 := grownBy_trans hG hg3
      clear hg3 hl1 hl2 hrow hr hG hbx hc0 hc1
      go_wp2_with (at_builtin; refine halt ?_)
      refine go_on (wpList_app1 rfl TL _ _ rfl (by rfl) (Rep.own_alloc ho1 _ (fun b hb => hb.1)) _ x rfl (box_cells (box_new w1 _ _)) (Rep.line.keep hx1 (fun p hp => World.cell?_alloc_lt w1 _ p hp.1)) (by first | (with_reducible rfl) | omega | (simp; done) | (simp; omega) | (intro b hb; (try dsimp only at hb); simp; omega) | (intro b hb; (try dsimp only at hb); simp [Value.ownBlock]; omega) | (intro b hb; exact hb.elim) | (go_grown; done)) (by first | (with_reducible rfl) | omega | (simp; done) | (simp; omega) | (intro b hb; (try dsimp only at hb); simp; omega) | (intro b hb; (try dsimp only at hb); simp [Value.ownBlock]; omega) | (intro b hb; exact hb.elim) | (go_grown; done)) (by simp; omega) (fun b hb => ⟨by simp; omega, hb.2.2⟩) ?_)
      intro v2 w2 ho2 hg2 hat2
      have hat3 : v2.ownBlock = (Value.slice Al acc.length cl).ownBlock ∨ v2.ownBlock = some (w1.heap.size + 1) := by
        rcases hat2 with h | h
        · exact .inl h
        · exact .inr (by rw [h]; simp)
      have hs2 := hg2.size
      simp only [World.size_alloc] at hs2
      have hrow2 : LRow w2 w.heap.size (w.heap.size + 1) v2 (acc ++ [x]) := Rep.own_more ho2 (fun b hb => ⟨by omega, hb.2.1, fun e => by
        rcases hat3 with h | h
        · rw [h] at e; exact hb.2.2 e
        · rw [h] at e; injection e; omega⟩)
      have hlt1 := Rep.own_lt ho1
      have hr2 := (hr1.alloc (by omega) (Nat.le_refl _) (.cells _ 42)).grown hg2 (fun e => by have := (hlt1 _ e.symm).1; omega) (fun b (hb : b < w.heap.size) => ⟨by simp; omega, fun e => by have := (hlt1 _ e.symm).1; omega⟩)
      have hG2 := grownBy_own (grownBy_alloc hG1 (.cells _ 42)) hg2 (fun k e => by have := (hlt1 k e).1; simp; omega)
      obtain ⟨A2, n2, c2, hbx2, hsl2⟩ := id hr2
      have hm2 : rlen (w2.cell? ⟨w.heap.size, 0, none⟩) = n2 := by rw [boxed hbx2 0 _ rfl]; rfl
      have hm0 : rlen (wr.cell? ⟨w.heap.size, 0, none⟩) = n1 := HM0.out
      have hn2 := hsl2.1
      have HN1' := HN1.out
      have HME := Lib.hid (show rlen (w2.cell? ⟨w.heap.size, 0, none⟩) < rlen (wr.cell? ⟨w.heap.size, 0, none⟩) by rw [hm2, hm0]; omega)
      have hst1 : st1.1.length ≤ m - 1 := by omega
      have hst2 : st1.1.length ≤ n := by omega
      have HRF2 : Hid (∀ l ∈ acc ++ [x], l.refs.length ≤ 255) := by
        intro l hl
        rcases List.mem_append.1 hl with hl | hl
        · exact HRF.out l hl
        · simp at hl
          subst hl
          exact hrf
      have hal : (acc ++ [x]).length ≤ 20001 := by simp; omega
      clear hm2 hm0 hn2 HN1' hbx2 hsl2 hr1 hG1 ho1 hx1 hat2 hat3
      go_wp2
      go_roundw
      case rel => exact ⟨m - 1, st1, acc ++ [x], hra, hst1, hal, hrow2, HRF2, hr2, hG2, hst2⟩
      case measure => exact HME.out
    · have HEX : Hid (readAll b.length (b, false) [] = (acc, st)) := by
        show _ = _
        rw [HRA.out]
        cases m with
        | zero => rfl
        | succ m =>
          rw [readAll, if_pos]
          by_cases h0 : 0 < n1
          · exact .inr (by omega)
          · exact .inl (List.eq_nil_of_length_eq_zero (by have := HN1.out; omega))
      obtain ⟨Al', cl', hv', hlsl⟩ := Rep.own_sl hrow
      simp only [Value.slice.injEq] at hv'
      obtain ⟨rfl, _, rfl⟩ := hv'
      have hlt := Rep.own_lt hrow
      have hl0 := Rep.sl_more (S' := fun b => b < wr.heap.size) hlsl (fun b hb => by
        rcases hb with hb | hb
        · exact hb.1
        · exact (hlt _ hb).2)
      have hBw : Below w.heap.size w wr := ((Below.refl _ _).alloc (Nat.le_refl _) _).grown hG (by simp) (fun k e => by injection e; omega)
      have HGN : Hid (putB acc ≠ some b ∨ st.2 = true → getB b = none) := by
        intro h
        unfold getB
        rw [HEX.out]
        dsimp only
        rw [if_neg]
        rintro ⟨h1, h2⟩
        rcases h with h | h
        · exact h h1
        · rw [h] at h2; cases h2
      have HGS : Hid (putB acc = some b → st.2 = false → getB b = some acc) := by
        intro h1 h2
        unfold getB
        rw [HEX.out]
        dsimp only
        rw [if_pos ⟨h1, h2⟩]
      obtain ⟨bs0, sh⟩ := st
      simp only at hc1
      clear hrow hG hr hlsl
      have hgo' : n1 = 0 ∨ 20000 < acc.length := by omega
      clear hgo
      have hbx1 : wr.heap[w.heap.size]? = some (.cells #[.slice A1 n1 c1, .bool sh] 61 (0, 0)) := hbx
      clear hbx
      rcases hgo' with hgo | hgo
      · subst hgo
        go_wp2_with fail
        refine Calls.mono (put_u acc _ _ _ _ hl0 (by omega) (fun l hl => by have := HRF.out l hl; omega)) ?_
        rintro e w1 ⟨v1, e1, rfl, hB1, hP1⟩
        have hBw1 := hBw.trans (hB1.mono (by omega))
        have hbx2 := box_below hbx1 hB1 (by omega)
        have hd0 := boxed hbx2 0 _ rfl
        have hd1 := boxed hbx2 1 _ rfl
        rcases hP1 with ⟨hP, rfl, rfl⟩ | ⟨bs, hP, rfl, hob⟩
        · have HG : Hid (getB b = none) := HGN.out (.inl (by rw [hP]; simp))
          clear hP hbx1 hbx2 hl0
          go_wp2_with fail
          go_ret2
          exact ⟨hBw1, .inl ⟨HG.out, rfl⟩⟩
        · cases sh with
          | true =>
            have HG : Hid (getB b = none) := HGN.out (.inr rfl)
            clear hP hbx1 hbx2 hl0 hob
            go_wp2_with fail
            go_ret2
            exact ⟨hBw1, .inl ⟨HG.out, rfl⟩⟩
          | false =>
            obtain ⟨Ab, cb, rfl, hsb⟩ := Rep.own_sl hob
            have hs' := Rep.sl_below hs hBw1 (fun _ h => h)
            have hl1 := Rep.sl_more (S' := fun b => b < w1.heap.size) (Rep.sl_below hl0 hB1 (fun _ h => h)) (fun b (hb : b < wr.heap.size) => by have := hB1.size; omega)
            by_cases hbb : b = bs
            · have HG : Hid (getB b = some acc) := HGS.out (by rw [hP, hbb]) rfl
              clear hP hbx1 hbx2 hl0 hob
              go_wp2_with fail
              refine Calls.mono (equal_c _ _ _ _ _ _ b bs _ _ _ hs' hsb) ?_
              rintro e w2 ⟨rfl, rfl⟩
              rw [decide_eq_true hbb]
              clear hbb
              go_wp2_with fail
              go_ret2
              exact ⟨hBw1, .inr ⟨acc, _, _, HG.out, rfl, hl1⟩⟩
            · have HG : Hid (getB b = none) := HGN.out (.inl (by rw [hP]; intro h; injection h with h; exact hbb h.symm))
              clear hP hbx1 hbx2 hl0 hob
              go_wp2_with fail
              refine Calls.mono (equal_c _ _ _ _ _ _ b bs _ _ _ hs' hsb) ?_
              rintro e w2 ⟨rfl, rfl⟩
              rw [decide_eq_false hbb]
              clear hbb
              go_wp2_with fail
              go_ret2
              exact ⟨hBw1, .inl ⟨HG.out, rfl⟩⟩
      · by_cases hn0 : 0 < n1
        · go_wp2_with fail
          refine Calls.mono (put_u acc _ _ _ _ hl0 (by omega) (fun l hl => by have := HRF.out l hl; omega)) ?_
          rintro e w1 ⟨v1, e1, rfl, hB1, hP1⟩
          have hBw1 := hBw.trans (hB1.mono (by omega))
          have hbx2 := box_below hbx1 hB1 (by omega)
          have hd0 := boxed hbx2 0 _ rfl
          have hd1 := boxed hbx2 1 _ rfl
          rcases hP1 with ⟨hP, rfl, rfl⟩ | ⟨bs, hP, rfl, hob⟩
          · have HG : Hid (getB b = none) := HGN.out (.inl (by rw [hP]; simp))
            clear hP hbx1 hbx2 hl0
            go_wp2_with fail
            go_ret2
            exact ⟨hBw1, .inl ⟨HG.out, rfl⟩⟩
          · cases sh with
            | true =>
              have HG : Hid (getB b = none) := HGN.out (.inr rfl)
              clear hP hbx1 hbx2 hl0 hob
              go_wp2_with fail
              go_ret2
              exact ⟨hBw1, .inl ⟨HG.out, rfl⟩⟩
            | false =>
              obtain ⟨Ab, cb, rfl, hsb⟩ := Rep.own_sl hob
              have hs' := Rep.sl_below hs hBw1 (fun _ h => h)
              have hl1 := Rep.sl_more (S' := fun b => b < w1.heap.size) (Rep.sl_below hl0 hB1 (fun _ h => h)) (fun b (hb : b < wr.heap.size) => by have := hB1.size; omega)
              by_cases hbb : b = bs
              · have HG : Hid (getB b = some acc) := HGS.out (by rw [hP, hbb]) rfl
                clear hP hbx1 hbx2 hl0 hob
                go_wp2_with fail
                refine Calls.mono (equal_c _ _ _ _ _ _ b bs _ _ _ hs' hsb) ?_
                rintro e w2 ⟨rfl, rfl⟩
                rw [decide_eq_true hbb]
                clear hbb
                go_wp2_with fail
                go_ret2
                exact ⟨hBw1, .inr ⟨acc, _, _, HG.out, rfl, hl1⟩⟩
              · have HG : Hid (getB b = none) := HGN.out (.inl (by rw [hP]; intro h; injection h with h; exact hbb h.symm))
                clear hP hbx1 hbx2 hl0 hob
                go_wp2_with fail
                refine Calls.mono (equal_c _ _ _ _ _ _ b bs _ _ _ hs' hsb) ?_
                rintro e w2 ⟨rfl, rfl⟩
                rw [decide_eq_false hbb]
                clear hbb
                go_wp2_with fail
                go_ret2
                exact ⟨hBw1, .inl ⟨HG.out, rfl⟩⟩
        · go_wp2_with fail
          refine Calls.mono (put_u acc _ _ _ _ hl0 (by omega) (fun l hl => by have := HRF.out l hl; omega)) ?_
          rintro e w1 ⟨v1, e1, rfl, hB1, hP1⟩
          have hBw1 := hBw.trans (hB1.mono (by omega))
          have hbx2 := box_below hbx1 hB1 (by omega)
          have hd0 := boxed hbx2 0 _ rfl
          have hd1 := boxed hbx2 1 _ rfl
          rcases hP1 with ⟨hP, rfl, rfl⟩ | ⟨bs, hP, rfl, hob⟩
          · have HG : Hid (getB b = none) := HGN.out (.inl (by rw [hP]; simp))
            clear hP hbx1 hbx2 hl0
            go_wp2_with fail
            go_ret2
            exact ⟨hBw1, .inl ⟨HG.out, rfl⟩⟩
          · cases sh with
            | true =>
              have HG : Hid (getB b = none) := HGN.out (.inr rfl)
              clear hP hbx1 hbx2 hl0 hob
              go_wp2_with fail
              go_ret2
              exact ⟨hBw1, .inl ⟨HG.out, rfl⟩⟩
            | false =>
              obtain ⟨Ab, cb, rfl, hsb⟩ := Rep.own_sl hob
              have hs' := Rep.sl_below hs hBw1 (fun _ h => h)
              have hl1 := Rep.sl_more (S' := fun b => b < w1.heap.size) (Rep.sl_below hl0 hB1 (fun _ h => h)) (fun b (hb : b < wr.heap.size) => by have := hB1.size; omega)
              by_cases hbb : b = bs
              · have HG : Hid (getB b = some acc) := HGS.out (by rw [hP, hbb]) rfl
                clear hP hbx1 hbx2 hl0 hob
                go_wp2_with fail
                refine Calls.mono (equal_c _ _ _ _ _ _ b bs _ _ _ hs' hsb) ?_
                rintro e w2 ⟨rfl, rfl⟩
                rw [decide_eq_true hbb]
                clear hbb
                go_wp2_with fail
                go_ret2
                exact ⟨hBw1, .inr ⟨acc, _, _, HG.out, rfl, hl1⟩⟩
              · have HG : Hid (getB b = none) := HGN.out (.inl (by rw [hP]; intro h; injection h with h; exact hbb h.symm))
                clear hP hbx1 hbx2 hl0 hob
                go_wp2_with fail
                refine Calls.mono (equal_c _ _ _ _ _ _ b bs _ _ _ hs' hsb) ?_
                rintro e w2 ⟨rfl, rfl⟩
                rw [decide_eq_false hbb]
                clear hbb
                go_wp2_with fail
                go_ret2
                exact ⟨hBw1, .inl ⟨HG.out, rfl⟩⟩
end Go.Proofs.Ytkgkbaicjpgljaa
