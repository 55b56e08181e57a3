/- The package proof: the reader of bytes. -/
import Derived.Test.YtkgkbaicjpgljaaPb
import Derived.Test.YtkgkbaicjpgljaaV
namespace Go.Proofs.Ytkgkbaicjpgljaa
open Go.RowKit
set_option linter.unusedVariables false

/-- The reader's state: the bytes that are left, and whether it is short. -/
def Rdr (w : World) (g : Nat) (S : Nat → Prop) (st : List UInt8 × Bool) : Prop :=
  ∃ A n c, w.heap[g]? = some (.cells #[.slice A n c, .bool st.2] 61 (0, 0)) ∧ Rep.u8.sl w S A n c st.1

theorem Rdr.grown {w w' : World} {g : Nat} {S : Nat → Prop} {st : List UInt8 × Bool} {row : Option Nat} (h : Rdr w g S st) (hg : w.grownBy w' row) (hr : some g ≠ row) (hS : ∀ b, S b → b < w.heap.size ∧ some b ≠ row) : Rdr w' g S st := by
  obtain ⟨A, n, c, h1, h2⟩ := h
  exact ⟨A, n, c, box_grown h1 hg hr, Rep.sl_grown h2 hg hS⟩

def takeR (st : List UInt8 × Bool) (n : Nat) : List UInt8 × (List UInt8 × Bool) :=
  if st.1.length < n then (List.replicate n 0, ([], true)) else (st.1.take n, (st.1.drop n, st.2))

theorem takeR_len (st : List UInt8 × Bool) (n : Nat) : (takeR st n).1.length = n := by
  unfold takeR
  split
  · simp
  · simp only [List.length_take]; omega

def TakePost (st : List UInt8 × Bool) (g B n : Nat) (w : World) (e : Ending) (w' : World) : Prop :=
  ∃ A n' c', e = .returned (.slice A n' c') ∧ Rep.u8.sl w' (fun b => b < w'.heap.size ∧ b ≠ g) A n' c' (takeR st n).1 ∧ Rdr w' g (fun b => b < B) (takeR st n).2 ∧ w.grownBy w' (some g)

set_option maxHeartbeats 400000 in
theorem take_c (st : List UInt8 × Bool) (g B n : Nat) (w : World) (h : Rdr w g (fun b => b < B) st) (hB : B ≤ g) (hn : n ≤ 1000000) :
    Calls Try.prog 45 #[.pointer (some ⟨g, 0, none⟩), .int .i64 (n : Int)] w (TakePost st g B n w) := by
  obtain ⟨A, m, c, hbx, hs⟩ := h
  have hgl := (Array.getElem?_eq_some_iff.1 hbx).1
  have hc := boxed hbx
  have hc0 := hc 0 _ rfl; have hc1 := hc 1 _ rfl
  have hf := boxed_frozen hbx
  have hf0 := hf 0
  have hf1 := hf 1
  have HL := Lib.hid hs.1
  have hmc := hs.2.1
  have hcm := hs.2.2.1
  clear hc hf
  by_cases hlt : m < n
  · have HT : Hid (takeR st n = (List.replicate n 0, ([], true))) := by
      show _ = _
      unfold takeR
      rw [if_pos (by have := HL.out; omega)]
    go_enter Try.func45, Try.ntmps45
    go_wp2_with (at_make; refine halt ?_)
    refine go_on (wpList_makeR rfl (r := Rep.u8) TB rfl _ _ rfl (base := w.heap.size) (0 : UInt8) n (by rfl) (by rfl) rfl rfl (by omega) (by omega) (by first | (with_reducible rfl) | omega | (simp; done) | (simp; omega) | (intro b hb; (try dsimp only at hb); simp; omega) | (intro b hb; (try dsimp only at hb); simp [Value.ownBlock]; omega) | (intro b hb; exact hb.elim) | (go_grown; done)) (fun _ => rfl) rfl ?_)
    intro w1 ho hg1
    simp only [World.size_setCell] at ho
    go_wp2
    go_ret
    obtain ⟨_, _, e, hs1⟩ := Rep.own_sl ho
    simp only [Value.slice.injEq, List.length_replicate] at e
    obtain ⟨rfl, _, rfl⟩ := e
    rw [List.length_replicate] at hs1
    have hb1 : w1.heap[g]? = _ := box_grown (box_set (box_set hbx (j := 1) (.bool true)) (j := 0) (.slice none 0 0)) hg1 (by simp)
    refine ⟨_, n, n, rfl, ?_, ?_, ?_⟩
    · rw [HT.out]
      refine Rep.sl_more hs1 fun b hb => ?_
      rcases hb with hb | hb
      · exact hb.elim
      · have := Rep.own_lt ho _ hb
        exact ⟨this.2, by omega⟩
    · rw [HT.out]
      exact ⟨none, 0, 0, hb1, Rep.sl_nil⟩
    · exact grownBy_trans (grownBy_set (grownBy_set (World.grownBy.refl w _) _) _) (grownBy_any hg1 _)
  · have HT : Hid (takeR st n = (st.1.take n, (st.1.drop n, st.2))) := by
      show _ = _
      unfold takeR
      rw [if_neg (by have := HL.out; omega)]
    have hcut := Rep.sl_cut hs (k := n) (by omega)
    have htk := Rep.sl_take hs (k := n) (by omega)
    rw [show Rep.u8.size = 1 from rfl, Nat.mul_one] at hcut
    have HC := Lib.hid hcut
    clear hcut
    go_enter Try.func45, Try.ntmps45
    go_wp2
    all_goals
      go_ret
      have hcut := HC.out
      first | ((have hcn : c = n := (by assumption)); subst hcn; rw [if_pos rfl, Nat.sub_self] at hcut) | rw [if_neg (by assumption)] at hcut
      refine ⟨_, _, _, rfl, ?_, ?_, ?_⟩
      · rw [HT.out]
        exact Rep.sl_more (Rep.sl_setFar htk (fun b (hb : b < B) => by omega)) (fun b (hb : b < B) => ⟨by simp only [World.size_setCell]; omega, by omega⟩)
      · rw [HT.out]
        exact ⟨_, _, _, box_set hbx _, Rep.sl_setFar hcut (fun b (hb : b < B) => by omega)⟩
      · exact grownBy_set (World.grownBy.refl w _) _

theorem take_k (st : List UInt8 × Bool) (g B : Nat) (k : Int) (w : World) (h : Rdr w g (fun b => b < B) st) (hB : B ≤ g) (h0 : 0 ≤ k) (hn : k ≤ 1000000) :
    Calls Try.prog 45 #[.pointer (some ⟨g, 0, none⟩), .int .i64 k] w (TakePost st g B k.toNat w) := by
  obtain ⟨n, rfl⟩ := Int.eq_ofNat_of_zero_le h0
  exact take_c st g B n w h hB (by omega)

def oneR (st : List UInt8 × Bool) : Nat × (List UInt8 × Bool) :=
  match st.1 with
  | [] => (0, ([], true))
  | b :: t => (b.toNat, (t, st.2))
theorem oneR_lt (st : List UInt8 × Bool) : (oneR st).1 < 256 := by
  unfold oneR
  split
  · omega
  · rename_i b t h
    exact UInt8.toNat_lt b
theorem oneR_take (st : List UInt8 × Bool) : ∃ x, (takeR st 1).1 = [x] ∧ (oneR st).1 = x.toNat ∧ (takeR st 1).2 = (oneR st).2 := by
  obtain ⟨bs, sh⟩ := st
  cases bs with
  | nil => exact ⟨0, rfl, rfl, rfl⟩
  | cons b t => exact ⟨b, by simp [takeR], by simp [oneR], by simp [takeR, oneR]⟩

def OnePost (st : List UInt8 × Bool) (g B : Nat) (w : World) (e : Ending) (w' : World) : Prop :=
  e = .returned (.int .i64 ((oneR st).1 : Nat)) ∧ Rdr w' g (fun b => b < B) (oneR st).2 ∧ w.grownBy w' (some g)

theorem one_c (st : List UInt8 × Bool) (g B : Nat) (w : World) (h : Rdr w g (fun b => b < B) st) (hB : B ≤ g) :
    Calls Try.prog 43 #[.pointer (some ⟨g, 0, none⟩)] w (OnePost st g B w) := by
  go_enter Try.func43, Try.ntmps43
  go_wp2_with fail
  refine Calls.mono (take_k st g B _ _ h hB (by omega) (by omega)) ?_
  rintro e w1 ⟨A, n, c, rfl, hs, hr, hg⟩
  obtain ⟨x, h1, h2, h3⟩ := oneR_take st
  have h1' : (takeR st (1 : Int).toNat).1 = [x] := h1
  rw [h1'] at hs
  have hn : n = 1 := hs.1.symm
  subst hn
  obtain ⟨b, o, y, es, rfl, hb, hy, hes, hc⟩ := Rep.sl_at hs (k := 0) (by omega)
  obtain rfl : es = [.int .u8 (y.toNat : Int)] := hes
  have hcy := hc 0 _ rfl
  simp only [Nat.zero_mul, Nat.add_zero] at hcy
  have hxy : x = y := by simpa using hy
  subst hxy
  have h3' : (takeR st (1 : Int).toNat).2 = (oneR st).2 := h3
  rw [h3'] at hr
  have H2 := Lib.hid h2
  have hx := UInt8.toNat_lt x
  clear h1 h1' h2 h3 h3' hc hs hy
  go_wp2
  go_ret
  exact ⟨by rw [H2.out]; rfl, hr, hg⟩

def twoR (st : List UInt8 × Bool) : Nat × (List UInt8 × Bool) := (256 * (oneR st).1 + (oneR (oneR st).2).1, (oneR (oneR st).2).2)

theorem twoR_lt (st : List UInt8 × Bool) : (twoR st).1 < 65536 := by
  have := oneR_lt st
  have := oneR_lt (oneR st).2
  unfold twoR
  simp only
  omega

def TwoPost (st : List UInt8 × Bool) (g B : Nat) (w : World) (e : Ending) (w' : World) : Prop :=
  e = .returned (.int .i64 ((twoR st).1 : Nat)) ∧ Rdr w' g (fun b => b < B) (twoR st).2 ∧ w.grownBy w' (some g)

theorem two_c (st : List UInt8 × Bool) (g B : Nat) (w : World) (h : Rdr w g (fun b => b < B) st) (hB : B ≤ g) :
    Calls Try.prog 44 #[.pointer (some ⟨g, 0, none⟩)] w (TwoPost st g B w) := by
  go_enter Try.func44, Try.ntmps44
  go_wp2_with fail
  refine Calls.mono (one_c st g B _ h hB) ?_
  rintro e w1 ⟨rfl, hr, hg⟩
  have l1 := oneR_lt st
  generalize hx : (oneR st).1 = x at *
  have HX := Lib.hid hx
  clear hx
  go_wp2_with fail
  refine Calls.mono (one_c _ g B _ hr hB) ?_
  rintro e w2 ⟨rfl, hr2, hg2⟩
  have l2 := oneR_lt (oneR st).2
  generalize hy : (oneR (oneR st).2).1 = y at *
  have HY := Lib.hid hy
  clear hy
  go_wp2_with fail
  go_ret
  refine ⟨ret_int ?_, hr2, grownBy_trans hg hg2⟩
  refine (or_bytes x y l1 l2).trans ?_
  rw [← HX.out, ← HY.out]
  rfl

/-- A line that is read. -/
def refsR : Nat → List UInt8 × Bool → List Int → List Int × (List UInt8 × Bool)
  | 0, st, acc => (acc, st)
  | n + 1, st, acc => if st.2 then (acc, st) else refsR n (twoR st).2 (acc ++ [((twoR st).1 : Int)])
def lineR (st : List UInt8 × Bool) : Line × (List UInt8 × Bool) :=
  let k := oneR st
  if k.1 = 1 then
    let d := twoR k.2
    let n := oneR d.2
    let r := refsR n.1 n.2 []
    (⟨1, d.1, false, 0, [], false, r.1⟩, r.2)
  else
    let ct := oneR k.2
    let ix := twoR ct.2
    let pl := oneR ix.2
    let p := takeR pl.2 pl.1
    let fl := oneR p.2
    let n := oneR fl.2
    let r := refsR n.1 n.2 []
    (⟨ub k.1, 0, decide (0 < ct.1), ix.1, p.1, decide (0 < fl.1), r.1⟩, r.2)
end Go.Proofs.Ytkgkbaicjpgljaa
