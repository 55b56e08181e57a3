/- The sum of rows. -/
import Derived.Test.YtkgkbaicjpgljaaSj
namespace Go.Proofs.Ytkgkbaicjpgljaa
open Go.RowKit Go.Lib
set_option linter.unusedVariables false

theorem eat_fuel : ∀ (n m : Nat) (st : List UInt64) (b : List UInt8), b.length ≤ n → b.length ≤ m → eat n st b = eat m st b
  | 0, m, st, b, hn, hm => by
    have : b = [] := List.eq_nil_of_length_eq_zero (by omega)
    subst this
    cases m <;> rfl
  | n + 1, 0, st, b, hn, hm => by
    have : b = [] := List.eq_nil_of_length_eq_zero (by omega)
    subst this
    rfl
  | n + 1, m + 1, st, b, hn, hm => by
    unfold eat
    split
    · exact eat_fuel n m _ _ (by rw [List.length_drop]; omega) (by rw [List.length_drop]; omega)
    · rfl
def eatF (st : List UInt64) (b : List UInt8) : List UInt64 × List UInt8 := eat b.length st b
theorem eatF_go {st : List UInt64} {b : List UInt8} (h : 128 ≤ b.length) : eatF st b = eatF (compress ks0 st (b.take 128)) (b.drop 128) := by
  unfold eatF
  obtain ⟨k, hk⟩ : ∃ k, b.length = k + 1 := ⟨b.length - 1, by omega⟩
  rw [hk, eat, if_pos h]
  exact eat_fuel _ _ _ _ (by rw [List.length_drop]; omega) (Nat.le_refl _)
theorem eatF_stop {st : List UInt64} {b : List UInt8} (h : ¬ 128 ≤ b.length) : eatF st b = (st, b) := by
  unfold eatF
  cases hb : b.length with
  | zero => rfl
  | succ k => rw [eat, if_neg h]
theorem eatF_app (a b : List UInt8) : ∀ (n : Nat) (st : List UInt64), a.length ≤ n → eatF st (a ++ b) = eatF (eatF st a).1 ((eatF st a).2 ++ b) := by
  intro n
  induction n generalizing a with
  | zero =>
    intro st h
    have : a = [] := List.eq_nil_of_length_eq_zero (by omega)
    subst this
    rfl
  | succ n ih =>
    intro st h
    by_cases h1 : 128 ≤ a.length
    · rw [eatF_go (b := a ++ b) (by rw [List.length_append]; omega), eatF_go h1, List.take_append_of_le_length h1, List.drop_append_of_le_length h1]
      exact ih (a.drop 128) _ (by rw [List.length_drop]; omega)
    · rw [eatF_stop h1]
theorem eatF_len (st : List UInt64) (b : List UInt8) (h : st.length = 8) : (eatF st b).1.length = 8 := eat_len _ _ _ h
theorem eatF_rest (b : List UInt8) : ∀ (n : Nat) (st : List UInt64), b.length ≤ n → (eatF st b).2.length = b.length % 128 := by
  intro n
  induction n generalizing b with
  | zero =>
    intro st h
    have : b = [] := List.eq_nil_of_length_eq_zero (by omega)
    subst this
    rfl
  | succ n ih =>
    intro st h
    by_cases h1 : 128 ≤ b.length
    · rw [eatF_go h1, ih _ _ (by rw [List.length_drop]; omega), List.length_drop]
      omega
    · rw [eatF_stop h1]
      show b.length = _
      omega

/-- The sum of bytes, as the program goes. -/
def shaL (m : List UInt8) : List UInt8 := sumL (eatF st0 m).1 (eatF st0 m).2 m.length
def HashOf (w : World) (lo g : Nat) (m : List UInt8) : Prop := HashAt w lo g (eatF st0 m).1 (eatF st0 m).2 m.length
theorem hash_base {w : World} {lo lo' g : Nat} {st : List UInt64} {rest : List UInt8} {al : Nat} (h : HashAt w lo g st rest al) (hl : lo' ≤ lo) : HashAt w lo' g st rest al := by
  obtain ⟨r, h1, h2⟩ := h
  exact ⟨r, h1, Rep.own_base h2 (fun k hk => Nat.le_trans hl (Rep.own_lt h2 k hk).1)⟩
def WritesPost (w : World) (base g : Nat) (m bs : List UInt8) (e : Ending) (w' : World) : Prop := e = .returned (.tuple #[]) ∧ HashOf w' w.heap.size g (m ++ bs) ∧ Below base w w'
theorem writes_m (m bs : List UInt8) (g base : Nat) (A : Option Addr) (n c : Nat) (S : Nat → Prop) (w : World) (hh : HashOf w base g m) (hbg : base ≤ g)
    (hs : Rep.u8.sl w S A n c bs) (hS : ∀ b, S b → b ≠ g) (hS2 : ∀ b, S b → b < w.heap.size) (hln : m.length + n ≤ 1000000000) :
    Calls Try.prog 24 #[.pointer (some ⟨g, 0, none⟩), .slice A n c] w (WritesPost w base g m bs) := by
  have hr := eatF_rest m _ st0 (Nat.le_refl _)
  refine (write_c _ _ bs _ g base A n c S w (eatF_len _ _ st0_len) hh hbg hs hS hS2 hln (by omega)).mono ?_
  rintro e w' ⟨rfl, h1, h2⟩
  refine ⟨rfl, ?_, h2⟩
  unfold HashOf
  rw [eatF_app m bs _ st0 (Nat.le_refl _), List.length_append]
  exact h1
def SumsPost (m : List UInt8) (w : World) (e : Ending) (w' : World) : Prop := e = .returned (.agg (bcells (shaL m))) ∧ Below w.heap.size w w'
theorem sums_m (m : List UInt8) (lo g : Nat) (w : World) (hh : HashOf w lo g m) (hm : m.length ≤ 1000000000) :
    Calls Try.prog 25 #[.pointer (some ⟨g, 0, none⟩)] w (SumsPost m w) :=
  (sum_c _ _ _ lo g w (eatF_len _ _ st0_len) hh hm (by rw [eatF_rest m _ st0 (Nat.le_refl _)]; omega)).mono fun e w' h => h
theorem shaL_len (m : List UInt8) : (shaL m).length = 64 := rfl

set_option maxHeartbeats 1000000 in
set_option maxRecDepth 100000 in
theorem of_c (l : List (List UInt8)) (A : Option Addr) (n c : Nat) (w : World) (hs : Rep.u8.slice.sl w (fun b => b < w.heap.size) A n c l) (hl : l.flatten.length ≤ 1000000000) :
    Calls Try.prog 20 #[.slice A n c] w (SumsPost l.flatten w) := by
  have HN := Lib.hid hs.1
  have hnc := hs.2.1
  have hcm := hs.2.2.1
  go_enter Try.func20, Try.ntmps20
  go_wp2_with fail
  refine Calls.mono (new_c _) ?_
  rintro e w1 ⟨rfl, hh1, hB1⟩
  have hq1 := box_below (box_new w _ 46) hB1 (by simp)
  have hB1' : Below w.heap.size w w1 := ((Below.refl _ _).alloc (Nat.le_refl _) _).trans (hB1.mono (by simp))
  have hz1 := hB1.size
  simp only [World.size_alloc] at hh1 hz1
  have hh1' : HashOf w1 (w.heap.size + 1) (w.heap.size + 1) [] := hh1
  clear hB1 hh1
  go_wp2
  go_loopw [9] (fun ix wr => ∃ (k : Nat), k ≤ n ∧ ix = .int .i64 (k : Nat) ∧ HashOf wr (w.heap.size + 1) (w.heap.size + 1) (l.take k).flatten ∧ wr.heap[w.heap.size]? = some (.cells (bcells (List.replicate 64 0)) 46 (0, 0)) ∧ Below w.heap.size w wr ∧ w.heap.size + 1 ≤ wr.heap.size) (fun ix _ => n - (intOf ix).toNat)
  case atStart => exact ⟨0, by omega, rfl, hh1', hq1, hB1', hz1⟩
  case round =>
    obtain ⟨k, hk, rfl, hh, hq, hB, hz⟩ := hrel
    by_cases hlt : k < n
    · obtain ⟨b', o', x, es, rfl, hb', hx, ⟨A2, n2, c2, rfl, hsx⟩, hcx⟩ := Rep.sl_at (Rep.sl_below hs hB (fun _ h => h)) hlt
      have hcx0 := hcx 0 _ rfl
      rw [show (Rep.u8.slice).size = 1 from rfl, Nat.mul_one, Nat.add_zero] at hcx0
      have HF : Hid ((l.take (k + 1)).flatten = (l.take k).flatten ++ x) := by
        show _ = _
        rw [List.take_add_one, hx, List.flatten_append]
        simp
      have hle : (l.take k).flatten.length + n2 ≤ 1000000000 := by
        have h1 : (l.take (k + 1)).flatten.length ≤ l.flatten.length := by
          conv => rhs; rw [← List.take_append_drop (k + 1) l, List.flatten_append, List.length_append]
          omega
        rw [HF.out, List.length_append, hsx.1] at h1
        omega
      clear hcx hx
      generalize (l.take k).flatten = m at *
      go_wp2_with fail
      refine Calls.mono (writes_m m x (w.heap.size + 1) (w.heap.size + 1) A2 n2 c2 _ _ hh (by omega) hsx (fun b hb => by have := hB.size; omega) (fun b hb => by have := hB.size; omega) hle) ?_
      rintro e w5 ⟨rfl, hh5, hB5⟩
      have hz5 := hB5.size
      have hq5 := box_below hq hB5 (by omega)
      have hB6 := hB.trans (hB5.mono (by omega))
      have hh6 : HashOf w5 (w.heap.size + 1) (w.heap.size + 1) (m ++ x) := hash_base hh5 hz
      clear hh hh5 hq hB hB5 hsx hcx0
      go_wp2
      go_roundw
      case rel => exact ⟨k + 1, by omega, by go_num, by rw [HF.out]; exact hh6, hq5, hB6, by omega⟩
      case measure => simp [intOf] <;> omega
    · have hke : k = n := by omega
      have hfl : (l.take k).flatten = l.flatten := by rw [hke, ← HN.out, List.take_length]
      rw [hfl] at hh
      clear hfl hke
      go_wp2_with fail
      refine Calls.mono (sums_m l.flatten _ _ _ hh hl) ?_
      rintro e w5 ⟨rfl, hB5⟩
      have hq5 := box_below hq hB5 (by omega)
      have hB6 := hB.trans (hB5.mono hB.size)
      go_wp2_with (refine halt_store (ty := 46) rfl ?_)
      refine go_onO (wpList_storeR rfl _ _ _ rfl w.heap.size (bcells (shaL l.flatten)) rfl rfl hq5 (by rw [bcells_size, shaL_len]; kernel_rfl) (by rw [bcells_size, bcells_size, shaL_len]; rfl) (bcells_one _) ?_)
      intro w9 hQ9 hg9 hs9
      go_wp2
      refine bodyPost_ret (results_cell_row rfl _ _ w.heap.size 46 (bcells (shaL l.flatten)) (0, 0) _ rfl hQ9 Try.underlying46 rfl (by rw [bcells_size, shaL_len]; kernel_rfl)) rfl ?_
      exact ⟨rfl, hB6.grown hg9 hB6.size (fun k e => by injection e; omega)⟩
end Go.Proofs.Ytkgkbaicjpgljaa
