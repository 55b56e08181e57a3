/- The law of the sums. -/
import Derived.Test.YtkgkbaicjpgljaaSq
namespace Go.Proofs.Ytkgkbaicjpgljaa
open Go.RowKit Go.Lib
set_option linter.unusedVariables false

theorem below_then {w a b : World} (h1 : Below w.heap.size w a) (h2 : Below a.heap.size a b) : Below w.heap.size w b := h1.trans (h2.mono h1.size)

def BytesPost (w : World) (xs : List UInt8) (e : Ending) (w' : World) : Prop := ∃ A c, e = .returned (.slice A xs.length c) ∧ Rep.u8.sl w' (fun b => b < w'.heap.size) A xs.length c xs ∧ Below w.heap.size w w'
theorem OwnPost.bytes {w w' : World} {xs : List UInt8} {e : Ending} (h : OwnPost w xs e w') : BytesPost w xs e w' := by
  obtain ⟨v, rfl, ho, hB⟩ := h
  obtain ⟨A, c, rfl, hs⟩ := Rep.own_sl ho
  exact ⟨A, c, rfl, Rep.sl_more hs (fun b hb => by
    rcases hb with hb | hb
    · exact hb.elim
    · exact (Rep.own_lt ho _ hb).2), hB⟩
theorem join_b (l : List (List UInt8)) (A : Option Addr) (n c : Nat) (w : World) (hs : Rep.u8.slice.sl w (fun b => b < w.heap.size) A n c l) (hl : l.flatten.length ≤ 1000000000) :
    Calls Try.prog 22 #[.slice A n c] w (BytesPost w l.flatten) := (join_c l A n c w hs hl).mono fun _ _ h => h.bytes
theorem join_m (l : List (List UInt8)) (m : List UInt8) (A : Option Addr) (n c : Nat) (w : World) (hm : Hid (l.flatten = m)) (hs : Rep.u8.slice.sl w (fun b => b < w.heap.size) A n c l) (hl : m.length ≤ 1000000000) :
    Calls Try.prog 22 #[.slice A n c] w (BytesPost w m) := by
  have := hm.out
  subst this
  exact join_b l A n c w hs hl
theorem refsum_b (b : List UInt8) (A : Option Addr) (n c : Nat) (w : World) (hs : Rep.u8.sl w (fun b => b < w.heap.size) A n c b) (hn : b.length ≤ 1000000000) :
    Calls Try.prog 21 #[.slice A n c] w (BytesPost w (shaL b)) := (refsum_c b A n c _ w hs (fun _ h => h) (by rw [← hs.1]; exact hn)).mono fun _ _ h => by rw [← ref_sum]; exact h.bytes
/-- Where a row of the call's own stays. -/
def Row (w : World) (Q : Nat) (xs : List UInt8) : Prop := w.heap[Q]? = some (.cells (bcells xs) 46 (0, 0)) ∧ Q < w.heap.size
theorem Row.later {w w' : World} {Q : Nat} {xs : List UInt8} (h : Row w Q xs) (hB : Below w.heap.size w w') : Row w' Q xs := ⟨box_below h.1 hB h.2, Nat.lt_of_lt_of_le h.2 hB.size⟩
theorem Row.drew {w : World} {Q : Nat} {xs : List UInt8} (h : Row w Q xs) : Row w.drew Q xs := h
theorem Row.conv {w : World} {Q : Nat} {m : List UInt8} (h : Row w Q (shaL m)) : (convert 25 9 (.slice (some ⟨Q, 0, none⟩) 64 64)).run Try.prog w = .ok (.string ⟨(shaL m).toArray⟩) w :=
  conv_bs Try.underlying25 Try.underlying5 Try.underlying9 (sl_bcells h.1 (by rw [shaL_len]; decide))
theorem bytes_conv {w : World} {A : Option Addr} {n c : Nat} {S : Nat → Prop} {m : List UInt8} (h : Rep.u8.sl w S A n c m) : (convert 25 9 (.slice A n c)).run Try.prog w = .ok (.string ⟨m.toArray⟩) w :=
  conv_bs Try.underlying25 Try.underlying5 Try.underlying9 h

attribute [local irreducible] shaL

set_option maxHeartbeats 400000 in
set_option maxRecDepth 100000 in
theorem shasums_c (l : List (List UInt8)) (A : Option Addr) (n c : Nat) (w : World) (hs : Rep.u8.slice.sl w (fun b => b < w.heap.size) A n c l) :
    Calls Try.prog 7 #[.slice A n c] w fun e w' => e = .returned (.bool true) ∧ Below w.heap.size w w' := by
  go_enter Try.func7, Try.ntmps7
  go_wp2_with fail
  refine Calls.mono (sgreat_c l _ _ _ _ hs) ?_
  rintro e w1 ⟨r, rfl, rfl, hr⟩
  cases r
  · have hl := (hr rfl).2
    have HR : Hid (l.length ≤ 100) := (hr rfl).1
    clear hr
    go_wp2_with fail
    refine Calls.mono (of_c l _ _ _ _ hs (by omega)) ?_
    rintro e w1 ⟨rfl, hB1⟩
    obtain ⟨m, hm⟩ : ∃ m, l.flatten = m := ⟨_, rfl⟩
    rw [hm] at hl ⊢
    have HM := Lib.hid hm
    clear hm
    have hz1 := hB1.size
    go_wp2_with (refine halt_store (ty := 46) rfl ?_)
    obtain ⟨Q, hQ⟩ : ∃ Q : Nat, Q = w1.heap.size := ⟨_, rfl⟩
    rw [← hQ]
    refine go_onO (wpList_storeR rfl _ _ _ rfl Q (bcells (shaL m)) rfl rfl (box_at2 hQ) (by rw [bcells_size, shaL_len]; kernel_rfl) (by rw [bcells_size, shaL_len]; rfl) (bcells_one _) ?_)
    intro w2 hq2 hg2 hs2
    have hB2 := (hB1.alloc hz1 _).grown hg2 (by simp; omega) (fun k e => by injection e; omega)
    simp only [World.size_alloc] at hs2
    have HQ : Row w2 Q (shaL m) := ⟨hq2, by omega⟩
    have hz2 := hB2.size
    have HJ := Lib.hid (Rep.sl_below hs (Below.drew hB2) (fun _ h => h))
    have HJ2 : Hid (Rep.u8.slice.sl w2.drew (fun b => b < w2.drew.heap.size) A n c l) := Rep.sl_more HJ.out (fun b hb => Nat.lt_of_lt_of_le hb hz2)
    have HLL : Hid (m.length ≤ 1000000000) := by show _ ≤ _; omega
    have kq := HQ.drew.conv
    have HB2 := Lib.hid hB2
    clear hB1 hz1 hQ hg2 hs2 hq2 hB2 HJ
    go_wp2
    go_region_with (first
      | (go_at_call 22; refine (join_m l m A n c _ HM HJ2.out HLL.out).mono ?_; rintro e w3 ⟨A3, c3, rfl, hs3, hB3⟩; have HS3 := Lib.hid hs3; have HQ3 := HQ.drew.later hB3; have kq3 := HQ3.conv; have HB3 := Lib.hid hB3; clear hs3 hB3)
      | (go_at_call 21; refine (refsum_b m A3 m.length c3 _ HS3.out HLL.out).mono ?_; rintro e w4 ⟨A4, c4, rfl, hs4, hB4⟩; have k4 := bytes_conv hs4; have HQ4 := HQ3.later hB4; have kq4 := HQ4.conv; have HB4 := Lib.hid hB4; clear hs4 hB4)
      | (go_at_call 19; refine (sawake_c _).mono ?_; rintro e w5 ⟨rfl, hB5⟩; have HB5 := Lib.hid hB5; clear hB5))
    all_goals
      go_wp2
      go_ret
      exact ⟨rfl, below_then (below_then (below_then HB2.out.drew HB3.out) HB4.out) HB5.out⟩
  · clear hr
    go_wp2_with fail
    refine Calls.mono (sawake_c _) ?_
    rintro e w1 ⟨rfl, hB⟩
    go_wp2_with fail
    go_ret
    exact ⟨rfl, hB⟩
end Go.Proofs.Ytkgkbaicjpgljaa
