/- The package proof: 'two rows' bytes': the law's walk. -/
import Derived.Test.YtkgkbaicjpgljaaPc
namespace Go.Proofs.Ytkgkbaicjpgljaa
open Go.RowKit

theorem TL : ElemT Try.prog 22 42 (.agg #[.int .u8 0, .int .i64 0, .bool false, .int .i64 0, .string ⟨#[]⟩, .bool false, .slice none 0 0]) 7 80 := ⟨Try.underlying22, by kernel_rfl, rfl, by omega⟩

theorem not_great {ls : List Line} (h : greatL ls = false) : ls.length ≤ 300 ∧ ∀ l ∈ ls, l.refs.length ≤ 40 ∧ l.path.length ≤ 300 := by
  simp only [greatL, Bool.or_eq_false_iff, decide_eq_false_iff_not, List.any_eq_false, Bool.or_eq_true, decide_eq_true_eq, not_or, Nat.not_lt] at h
  exact ⟨h.1, fun l hl => h.2 l hl⟩

theorem putB_append {a b : List Line} (ha : a.length ≤ 300) (hb : b.length ≤ 300) :
    putB (a ++ b) = (putB a).bind fun x => (putB b).map fun y => x ++ y := by
  unfold putB
  rw [List.length_append, List.all_append, List.flatMap_append]
  by_cases h1 : a.all may = true <;> by_cases h2 : b.all may = true <;> simp [h1, h2, show a.length ≤ 20000 by omega, show b.length ≤ 20000 by omega, show a.length + b.length ≤ 20000 by omega]

theorem putB_len {a : List Line} {x : List UInt8} (ha : a.length ≤ 600) (h : putB a = some x) : x.length ≤ 30000 := by
  unfold putB at h
  split at h
  · rename_i hh
    cases h
    have := flat_lineB_len a hh.2 600 ha
    omega
  · cases h

def PutRes (ls : List Line) (w w' : World) (v : Value) (er : Int) : Prop :=
  (putB ls = none ∧ v = .slice none 0 0 ∧ er = 14) ∨ ∃ bs, putB ls = some bs ∧ er = 0 ∧ Rep.u8.own 5 w' w.heap.size (fun _ => False) v bs
theorem put_u (ls : List Line) (A : Option Addr) (n c : Nat) (w : World) (hs : Rep.line.sl w (fun b => b < w.heap.size) A n c ls) (hn : n ≤ 1000000000) (hr : ∀ l ∈ ls, l.refs.length ≤ 1000000000) :
    Calls Try.prog 13 #[.slice A n c] w fun e w' => ∃ v er, e = .returned (.tuple #[v, .int .i64 er]) ∧ Below w.heap.size w w' ∧ PutRes ls w w' v er :=
  (put_c ls A n c w hs hn hr).mono fun e w' ⟨hb, h⟩ => by
    rcases h with ⟨h, rfl⟩ | ⟨bs, v, h, rfl, ho⟩
    · exact ⟨_, _, rfl, hb, .inl ⟨h, rfl, rfl⟩⟩
    · exact ⟨_, _, rfl, hb, .inr ⟨bs, h, rfl, ho⟩⟩

set_option maxRecDepth 100000 in
set_option maxHeartbeats 1000000 in
theorem joins_c (a b : List Line) (A B : Option Addr) (n c m d : Nat) (w : World) (ha : Rep.line.sl w (fun b => b < w.heap.size) A n c a) (hb : Rep.line.sl w (fun b => b < w.heap.size) B m d b) :
    Calls Try.prog 3 #[.slice A n c, .slice B m d] w fun e w' => e = .returned (.bool true) ∧ Below w.heap.size w w' := by
  have HNA := Lib.hid ha.1
  have HNB := Lib.hid hb.1
  by_cases hga : greatL a = true
  · go_enter Try.func3, Try.ntmps3
    go_wp2_with fail
    refine Calls.mono (great_c a _ _ _ _ ha) ?_
    rintro e w1 ⟨rfl, rfl⟩
    go_wp2_with fail
    refine Calls.mono (awake_c _) ?_
    rintro e w1 ⟨rfl, hB⟩
    go_wp2_with fail
    go_ret
    exact ⟨rfl, hB⟩
  · have hga' : greatL a = false := by simpa using hga
    have HGA := Lib.hid (not_great hga')
    clear hga
    by_cases hgb : greatL b = true
    · go_enter Try.func3, Try.ntmps3
      go_wp2_with fail
      refine Calls.mono (great_c a _ _ _ _ ha) ?_
      rintro e w1 ⟨rfl, rfl⟩
      go_wp2_with fail
      refine Calls.mono (great_c b _ _ _ _ hb) ?_
      rintro e w1 ⟨rfl, rfl⟩
      go_wp2_with fail
      refine Calls.mono (awake_c _) ?_
      rintro e w1 ⟨rfl, hB⟩
      go_wp2_with fail
      go_ret
      exact ⟨rfl, hB⟩
    · have hgb' : greatL b = false := by simpa using hgb
      have HGB := Lib.hid (not_great hgb')
      have hn3 : n ≤ 300 := by have := HNA.out; have := HGA.out.1; omega
      have hal := HGA.out.1
      have hbl := HGB.out.1
      have hm3 : m ≤ 300 := by have := HNB.out; have := HGB.out.1; omega
      have HPJ := Lib.hid (putB_append HGA.out.1 HGB.out.1)
      clear hgb
      go_enter Try.func3, Try.ntmps3
      go_wp2_with fail
      refine Calls.mono (great_c a _ _ _ _ ha) ?_
      rintro e w1 ⟨rfl, rfl⟩
      go_wp2_with fail
      refine Calls.mono (great_c b _ _ _ _ hb) ?_
      rintro e w1 ⟨rfl, rfl⟩
      go_wp2_with fail
      refine Calls.mono (put_u a _ _ _ _ ha (by omega) (fun l hl => by have := (HGA.out.2 l hl).1; omega)) ?_
      clear hga' hgb'
      rintro e w1 ⟨v1, e1, rfl, hB1, hP1⟩
      have HR1 := Lib.hid hP1
      have HRA : Hid (∀ l ∈ a ++ b, l.refs.length ≤ 1000000000) := by
        intro l hl
        rcases List.mem_append.1 hl with hl | hl
        · have := (HGA.out.2 l hl).1; omega
        · have := (HGB.out.2 l hl).1; omega
      have hsz1 := hB1.size
      clear hP1
      go_wp2_with fail
      refine Calls.mono (put_u b _ _ _ _ (Rep.sl_more (Rep.sl_below hb hB1 (fun _ h => h)) (fun _ _ => by omega)) (by omega) (fun l hl => by have := (HGB.out.2 l hl).1; omega)) ?_
      rintro e w2 ⟨v2, e2, rfl, hB2, hP2⟩
      have HR2 := Lib.hid hP2
      have hB2' := hB1.trans (hB2.mono hsz1)
      have hsz2 := hB2'.size
      clear hP2
      go_wp2_with (at_builtin; refine halt ?_)
      refine go_on (wpList_appS rfl TL _ _ rfl (by rfl) (own_lit (base := w2.heap.size) (S := fun b => b < w.heap.size) #[] [] (by first | (with_reducible rfl) | omega | (simp; done) | (simp; omega) | (intro b hb; (try dsimp only at hb); simp; omega) | (intro b hb; (try dsimp only at hb); simp [Value.ownBlock]; omega) | (intro b hb; exact hb.elim) | (go_grown; done)) rfl (by first | (with_reducible rfl) | omega | (simp; done) | (simp; omega) | (intro b hb; (try dsimp only at hb); simp; omega) | (intro b hb; (try dsimp only at hb); simp [Value.ownBlock]; omega) | (intro b hb; exact hb.elim) | (go_grown; done)) (by first | (with_reducible rfl) | omega | (simp; done) | (simp; omega) | (intro b hb; (try dsimp only at hb); simp; omega) | (intro b hb; (try dsimp only at hb); simp [Value.ownBlock]; omega) | (intro b hb; exact hb.elim) | (go_grown; done)) rfl (by first | (with_reducible rfl) | omega | (simp; done) | (simp; omega) | (intro b hb; (try dsimp only at hb); simp; omega) | (intro b hb; (try dsimp only at hb); simp [Value.ownBlock]; omega) | (intro b hb; exact hb.elim) | (go_grown; done)) (by simp)) rfl (Rep.sl_below ha ((hB2'.alloc hsz2 _)) (fun _ h => h)) (by first | (with_reducible rfl) | omega | (simp; done) | (simp; omega) | (intro b hb; (try dsimp only at hb); simp; omega) | (intro b hb; (try dsimp only at hb); simp [Value.ownBlock]; omega) | (intro b hb; exact hb.elim) | (go_grown; done)) (by first | (with_reducible rfl) | omega | (simp; done) | (simp; omega) | (intro b hb; (try dsimp only at hb); simp; omega) | (intro b hb; (try dsimp only at hb); simp [Value.ownBlock]; omega) | (intro b hb; exact hb.elim) | (go_grown; done)) (by first | (with_reducible rfl) | omega | (simp; done) | (simp; omega) | (intro b hb; (try dsimp only at hb); simp; omega) | (intro b hb; (try dsimp only at hb); simp [Value.ownBlock]; omega) | (intro b hb; exact hb.elim) | (go_grown; done)) (by first | (with_reducible rfl) | omega | (simp; done) | (simp; omega) | (intro b hb; (try dsimp only at hb); simp; omega) | (intro b hb; (try dsimp only at hb); simp [Value.ownBlock]; omega) | (intro b hb; exact hb.elim) | (go_grown; done)) ?_)
      intro v3 w3 hown3 hg3 _
      have hB3 : Below w2.heap.size w2 w3 := ((Below.refl _ _).alloc (Nat.le_refl _) _).grown hg3 (by simp) (by simp [Value.ownBlock])
      have hB3' := hB2'.trans (hB3.mono hsz2)
      have hsz23 := hB3.size
      have hsz3 := hB3'.size
      go_wp2_with (at_builtin; refine halt ?_)
      refine go_on (wpList_appS rfl TL _ _ rfl (by rfl) hown3 rfl (Rep.sl_below hb hB3' (fun _ h => h)) (by first | (with_reducible rfl) | omega | (simp; done) | (simp; omega) | (intro b hb; (try dsimp only at hb); simp; omega) | (intro b hb; (try dsimp only at hb); simp [Value.ownBlock]; omega) | (intro b hb; exact hb.elim) | (go_grown; done)) (by first | (with_reducible rfl) | omega | (simp; done) | (simp; omega) | (intro b hb; (try dsimp only at hb); simp; omega) | (intro b hb; (try dsimp only at hb); simp [Value.ownBlock]; omega) | (intro b hb; exact hb.elim) | (go_grown; done)) (by first | (with_reducible rfl) | omega | (simp; done) | (simp; omega) | (intro b hb; (try dsimp only at hb); simp; omega) | (intro b hb; (try dsimp only at hb); simp [Value.ownBlock]; omega) | (intro b hb; exact hb.elim) | (go_grown; done)) (fun b hb => ⟨by omega, fun e => by have := (Rep.own_lt hown3 _ e.symm).1; omega⟩) ?_)
      intro v4 w4 hown4 hg4 _
      have hab : [] ++ a ++ b = a ++ b := rfl
      have hal2 : (a ++ b).length ≤ 600 := by rw [List.length_append]; omega
      rw [hab] at hown4
      clear hab
      generalize a ++ b = ab at *
      have hB4 : Below w2.heap.size w2 w4 := below_app hB3 hown3 hg4 (Nat.le_refl _)
      have hB4' := hB2'.trans (hB4.mono hsz2)
      have hsz4 := hB4'.size
      obtain ⟨A4, c4, rfl, hs4⟩ := Rep.own_sl hown4
      have hS4 := Rep.sl_more (S' := fun b => b < w4.heap.size) hs4 (fun b hb => by
        rcases hb with hb | hb
        · omega
        · exact (Rep.own_lt hown4 _ hb).2)
      clear hs4 hg3 hg4 hown3
      go_wp2_with fail
      refine Calls.mono (put_u ab _ _ _ _ hS4 (by omega) HRA.out) ?_
      rintro e w5 ⟨v5, e5, rfl, hB5, hP5⟩
      have hB5' := hB4'.trans (hB5.mono hsz4)
      have hsz5 := hB5'.size
      rcases HR1.out with ⟨hP1, rfl, rfl⟩ | ⟨x, hP1, rfl, hox⟩
      · rcases hP5 with ⟨_, rfl, rfl⟩ | ⟨z, hP5, rfl, hoz⟩
        · clear hS4 hown4
          go_wp2_with fail
          refine Calls.mono (awake_c _) ?_
          rintro e w6 ⟨rfl, hB6⟩
          go_wp2_with fail
          go_ret
          exact ⟨rfl, hB5'.trans (hB6.mono hsz5)⟩
        · have := HPJ.out
          rw [hP1] at this
          rw [this] at hP5
          cases hP5
      · rcases HR2.out with ⟨hP2, rfl, rfl⟩ | ⟨y, hP2, rfl, hoy⟩
        · rcases hP5 with ⟨_, rfl, rfl⟩ | ⟨z, hP5, rfl, hoz⟩
          · clear hS4 hown4 hox hP1 hP2
            go_wp2_with fail
            refine Calls.mono (awake_c _) ?_
            rintro e w6 ⟨rfl, hB6⟩
            go_wp2_with fail
            go_ret
            exact ⟨rfl, hB5'.trans (hB6.mono hsz5)⟩
          · have := HPJ.out
            rw [hP1, hP2] at this
            rw [this] at hP5
            cases hP5
        · have hj := HPJ.out
          rw [hP1, hP2] at hj
          rcases hP5 with ⟨hP5, rfl, rfl⟩ | ⟨z, hP5, rfl, hoz⟩
          · rw [hj] at hP5
            cases hP5
          · rw [hj] at hP5
            have HZ : Hid (x ++ y = z) := by injection hP5
            have hzl : z.length = x.length + y.length := by rw [← HZ.out, List.length_append]
            have hzl' : z.length ≤ 60000 := by have := putB_len (by omega) hP1; have := putB_len (by omega) hP2; omega
            obtain ⟨A1, c1, rfl, hsx⟩ := Rep.own_sl (Rep.own_later (Rep.own_later (Rep.own_later hox hB2) hB4) hB5)
            obtain ⟨A2, c2, rfl, hsy⟩ := Rep.own_sl (Rep.own_later (Rep.own_later hoy hB4) hB5)
            obtain ⟨A3, c3, rfl, hsz⟩ := Rep.own_sl hoz
            have k1 := conv_bs Try.underlying25 Try.underlying5 Try.underlying9 hsx
            have k2 := conv_bs Try.underlying25 Try.underlying5 Try.underlying9 hsy
            have k3 := conv_bs Try.underlying25 Try.underlying5 Try.underlying9 hsz
            have lx := putB_len (by omega) hP1
            have ly := putB_len (by omega) hP2
            clear hzl hsx hsy hsz hox hoy hoz hj hP1 hP2 hP5 hS4 hown4
            have HE : Hid (z = ((⟨x.toArray⟩ : ByteArray) ++ (⟨y.toArray⟩ : ByteArray)).toList) := by
              show _ = _
              rw [← HZ.out]
              simp [ByteArray.toList_eq]
            go_wp2_with fail
            · clear k1 k2 k3
              refine Calls.mono (awake_c _) ?_
              rintro e w6 ⟨rfl, hB6⟩
              go_wp2_with fail
              go_ret
              exact ⟨rfl, hB5'.trans (hB6.mono hsz5)⟩
end Go.Proofs.Ytkgkbaicjpgljaa
