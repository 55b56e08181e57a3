/- The package proof: Put. -/
import Derived.Test.YtkgkbaicjpgljaaPa
namespace Go.Proofs.Ytkgkbaicjpgljaa
open Go.RowKit

def lineB (l : Line) : List UInt8 :=
  [l.kind] ++ (if l.kind = 1 then twoB l.dfn else [bitB l.cert] ++ twoB l.index ++ [ub l.path.length] ++ l.path ++ [bitB l.flag]) ++ [ub l.refs.length] ++ l.refs.flatMap twoB
def putB (ls : List Line) : Option (List UInt8) := if ls.length ≤ 20000 ∧ ls.all may = true then some (ls.flatMap lineB) else none

theorem may_facts {l : Line} (h : may l = true) : (0 ≤ l.dfn ∧ l.dfn ≤ 65535) ∧ (0 ≤ l.index ∧ l.index ≤ 65535) ∧ (∀ n ∈ l.refs, 0 ≤ n ∧ n ≤ 65535) ∧ l.path.length ≤ 3 ∧ l.refs.length ≤ 16 := by
  simp only [may, inR, List.all_cons, List.all_eq_true, Bool.and_eq_true, decide_eq_true_eq] at h
  obtain ⟨⟨⟨h1, h2, h3⟩, h4⟩, h5⟩ := h
  refine ⟨h1, h2, h3, h4, ?_⟩
  split at h5 <;> simp at h5 <;> omega
@[simp] theorem twoB_len (n : Int) : (twoB n).length = 2 := rfl
theorem flat_twoB_len (ns : List Int) : (ns.flatMap twoB).length = 2 * ns.length := by
  induction ns with
  | nil => rfl
  | cons n ns ih => simp only [List.flatMap_cons, List.length_append, twoB_len, ih, List.length_cons]; omega
def headB (l : Line) : List UInt8 := [l.kind] ++ (if l.kind = 1 then twoB l.dfn else [bitB l.cert] ++ twoB l.index ++ [ub l.path.length] ++ l.path ++ [bitB l.flag])
theorem lineB_head (l : Line) : lineB l = headB l ++ [ub l.refs.length] ++ l.refs.flatMap twoB := rfl
theorem lineB_len {l : Line} (h : may l = true) : (lineB l).length ≤ 42 := by
  obtain ⟨_, _, _, h4, h5⟩ := may_facts h
  unfold lineB
  split <;> simp only [List.length_append, List.length_cons, List.length_nil, twoB_len, flat_twoB_len] <;> omega

theorem flat_lineB_len : ∀ (ls : List Line), ls.all may = true → ∀ k, ls.length ≤ k → (ls.flatMap lineB).length ≤ 42 * k := by
  intro ls
  induction ls with
  | nil => intro _ k _; simp
  | cons l ls ih =>
    intro h k hk
    simp only [List.all_cons, Bool.and_eq_true] at h
    simp only [List.length_cons] at hk
    have := lineB_len h.1
    have := ih h.2 (k - 1) (by omega)
    simp only [List.flatMap_cons, List.length_append]
    omega

def PutPost (ls : List Line) (w : World) (e : Ending) (w' : World) : Prop :=
  Below w.heap.size w w' ∧ ((putB ls = none ∧ e = .returned (.tuple #[.slice none 0 0, .int .i64 14])) ∨ ∃ bs v, putB ls = some bs ∧ e = .returned (.tuple #[v, .int .i64 0]) ∧ Rep.u8.own 5 w' w.heap.size (fun _ => False) v bs)

set_option maxRecDepth 100000 in
set_option maxHeartbeats 1000000 in
theorem put_c (ls : List Line) (A : Option Addr) (n c : Nat) (w : World) (hs : Rep.line.sl w (fun b => b < w.heap.size) A n c ls) (hn : n ≤ 1000000000) (hr : ∀ l ∈ ls, l.refs.length ≤ 1000000000) :
    Calls Try.prog 13 #[.slice A n c] w (PutPost ls w) := by
  have HL := Lib.hid hs.1
  have HR := Lib.hid hr
  clear hr
  go_enter Try.func13, Try.ntmps13
  go_wp2
  go_loopw [4, 11] (fun out i wr => ∃ (k : Nat), k ≤ n ∧ i = .int .i64 k ∧ Rep.u8.own 5 wr w.heap.size (fun _ => False) out ((ls.take k).flatMap lineB) ∧ Below w.heap.size w wr ∧ Hid (k ≤ 20000 ∧ (ls.take k).all may = true)) (fun _ i _ => n - (intOf i).toNat)
  case atStart => exact ⟨0, Nat.zero_le _, rfl, Rep.own_nil, Below.refl _ _, Nat.zero_le _, rfl⟩
  case round =>
    obtain ⟨k, hk, rfl, hown, hB, hall⟩ := hrel
    have hsz := hB.size
    by_cases hlt : k < n
    · obtain ⟨b, o, x, es, rfl, hb, hx, ⟨rv, rfl, ⟨A1, n1, c1, he, hs1⟩, hd, hi, hp⟩, hc⟩ := Rep.sl_at (Rep.sl_below hs hB (fun _ h => h)) hlt
      obtain rfl : rv = .slice A1 n1 c1 := by simpa using he
      simp only [Rep.line] at hc
      have hc0 := hc 0 _ rfl; have hc1 := hc 1 _ rfl; have hc2 := hc 2 _ rfl; have hc3 := hc 3 _ rfl; have hc4 := hc 4 _ rfl; have hc5 := hc 5 _ rfl; have hc6 := hc 6 _ rfl
      have HX := Lib.hid hx
      rw [Nat.add_zero] at hc0
      clear hc hx he
      by_cases hk2 : k < 20000
      · have hbx0 := box_new wr #[.int .u8 (x.kind.toNat : Int), .int .i64 x.dfn, .bool x.cert, .int .i64 x.index, .string ⟨x.path.toArray⟩, .bool x.flag, .slice A1 n1 c1] 42
        go_wp2_with fail
        refine Calls.mono (may_c x _ _ ⟨_, rfl, ⟨A1, n1, c1, rfl, Rep.sl_more (Rep.sl_below hs1 (B := w.heap.size) (by first | (with_reducible rfl) | omega | (simp; done) | (simp; omega) | (intro b hb; (try dsimp only at hb); simp; omega) | (intro b hb; (try dsimp only at hb); simp [Value.ownBlock]; omega) | (intro b hb; exact hb.elim) | (go_grown; done)) (fun _ h => h)) (fun b hb => by simp; omega)⟩, hd, hi, hp⟩ (HR.out x (List.mem_of_getElem? HX.out))) ?_
        cases hm : may x with
        | false =>
          rintro e w1 ⟨rfl, hb1⟩
          have HP : Hid (putB ls = none) := by
            show _ = _
            unfold putB
            rw [if_neg]
            rintro ⟨_, h2⟩
            rw [List.all_eq_true] at h2
            have := h2 x (List.mem_of_getElem? HX.out)
            rw [hm] at this
            cases this
          clear hm
          go_wp2
          go_ret2
          exact ⟨(hB.alloc hB.size _).trans (hb1.mono (by have := hB.size; simp; omega)), .inl ⟨HP.out, rfl⟩⟩
        | true =>
          rintro e w1 ⟨rfl, hb1⟩
          have HM := Lib.hid hm
          clear hm
          have hbx := box_below hbx0 hb1 (by simp)
          have hown1 := Rep.own_later (Rep.own_later hown (by first | (with_reducible rfl) | omega | (simp; done) | (simp; omega) | (intro b hb; (try dsimp only at hb); simp; omega) | (intro b hb; (try dsimp only at hb); simp [Value.ownBlock]; omega) | (intro b hb; exact hb.elim) | (go_grown; done))) hb1
          have hB1 : Below w.heap.size w w1 := (hB.alloc hB.size _).trans (hb1.mono (by have := hB.size; simp; omega))
          generalize hg : wr.heap.size = g at *
          clear hbx0 hb1 hc0 hc1 hc2 hc3 hc4 hc5 hc6 hg
          have hc := boxed hbx
          have hc0 := hc 0 _ rfl; have hc1 := hc 1 _ rfl; have hc2 := hc 2 _ rfl; have hc3 := hc 3 _ rfl; have hc4 := hc 4 _ rfl; have hc5 := hc 5 _ rfl; have hc6 := hc 6 _ rfl
          clear hc
          have hpl := may_facts HM.out
          have hal := hall.out
          have hbl : ((ls.take k).flatMap lineB).length ≤ 42 * k := flat_lineB_len _ hal.2 k (List.length_take_le _ _)
          clear hal
          have hsz1 := hB1.size
          generalize hpre : (ls.take k).flatMap lineB = pre at *
          have HPRE := Lib.hid hpre
          clear hpre
          obtain ⟨hd2, hi2, hr2, hp2, hn2⟩ := hpl
          have hn1 : n1 = x.refs.length := hs1.1.symm
          have HN1 := Lib.hid hn1
          have hn1' : n1 ≤ 16 := by omega
          have HR2 := Lib.hid hr2
          clear hn1 hr2
          have HS1 := Lib.hid hs1
          clear hs1
          go_wp2_with (at_builtin; refine halt ?_)
          refine go_on (wpList_app1 rfl TB _ _ rfl (by rfl) (Rep.own_later hown1 (by first | (with_reducible rfl) | omega | (simp; done) | (simp; omega) | (intro b hb; (try dsimp only at hb); simp; omega) | (intro b hb; (try dsimp only at hb); simp [Value.ownBlock]; omega) | (intro b hb; exact hb.elim) | (go_grown; done))) [_] x.kind rfl (cell_one_new _ _ _) rfl (by first | (with_reducible rfl) | omega | (simp; done) | (simp; omega) | (intro b hb; (try dsimp only at hb); simp; omega) | (intro b hb; (try dsimp only at hb); simp [Value.ownBlock]; omega) | (intro b hb; exact hb.elim) | (go_grown; done)) (by first | (with_reducible rfl) | omega | (simp; done) | (simp; omega) | (intro b hb; (try dsimp only at hb); simp; omega) | (intro b hb; (try dsimp only at hb); simp [Value.ownBlock]; omega) | (intro b hb; exact hb.elim) | (go_grown; done)) (by first | (with_reducible rfl) | omega | (simp; done) | (simp; omega) | (intro b hb; (try dsimp only at hb); simp; omega) | (intro b hb; (try dsimp only at hb); simp [Value.ownBlock]; omega) | (intro b hb; exact hb.elim) | (go_grown; done)) (by first | (with_reducible rfl) | omega | (simp; done) | (simp; omega) | (intro b hb; (try dsimp only at hb); simp; omega) | (intro b hb; (try dsimp only at hb); simp [Value.ownBlock]; omega) | (intro b hb; exact hb.elim) | (go_grown; done)) ?_)
          intro v2 w2 hown2 hg2 _
          have hB2 := below_app (hB1.alloc hB1.size _) (Rep.own_later hown1 (by first | (with_reducible rfl) | omega | (simp; done) | (simp; omega) | (intro b hb; (try dsimp only at hb); simp; omega) | (intro b hb; (try dsimp only at hb); simp [Value.ownBlock]; omega) | (intro b hb; exact hb.elim) | (go_grown; done))) hg2 (Nat.le_refl _)
          have hbx2 := box_app (box_alloc hbx _) (Rep.own_later hown1 (by first | (with_reducible rfl) | omega | (simp; done) | (simp; omega) | (intro b hb; (try dsimp only at hb); simp; omega) | (intro b hb; (try dsimp only at hb); simp [Value.ownBlock]; omega) | (intro b hb; exact hb.elim) | (go_grown; done))) (by decide) hg2
          clear hc0 hc1 hc2 hc3 hc4 hc5 hc6 hbx hg2 hown1 hB1
          have hc := boxed hbx2
          have hc0 := hc 0 _ rfl; have hc1 := hc 1 _ rfl; have hc2 := hc 2 _ rfl; have hc3 := hc 3 _ rfl; have hc4 := hc 4 _ rfl; have hc5 := hc 5 _ rfl; have hc6 := hc 6 _ rfl
          clear hc
          by_cases hk1 : x.kind = 1
          · have h1 : ((x.kind.toNat : Int) == 1) = true := by rw [hk1]; rfl
            have hsz2 := hB2.size
            go_wp2_with fail
            refine Calls.mono (wide_c x.dfn _ _ _ _ hown2 (by simp; omega) hsz2 hd2.1 hd2.2) ?_
            rintro e w3 ⟨v3, rfl, hown3, hg3⟩
            have hB3 := below_app hB2 hown2 hg3 (Nat.le_refl _)
            have hbx3 := box_app hbx2 hown2 (by decide) hg3
            have HH : Hid (pre ++ [x.kind] ++ twoB x.dfn = pre ++ headB x) := by
              show _ = _
              rw [headB, if_pos hk1, List.append_assoc]
            have hlen : (pre ++ [x.kind] ++ twoB x.dfn).length ≤ 42 * k + 3 := by simp only [List.length_append, twoB_len, List.length_singleton]; omega
            generalize pre ++ [x.kind] ++ twoB x.dfn = pre2 at *
            clear hc0 hc1 hc2 hc3 hc4 hc5 hc6 hg3 hbx2 hown2 hB2
            have hc := boxed hbx3
            have hc0 := hc 0 _ rfl; have hc1 := hc 1 _ rfl; have hc2 := hc 2 _ rfl; have hc3 := hc 3 _ rfl; have hc4 := hc 4 _ rfl; have hc5 := hc 5 _ rfl; have hc6 := hc 6 _ rfl
            clear hc
            have hszt := hB3.size
            have EN := Lib.hid (ub_val (k := (n1 : Int)) (by omega) (by omega))
            go_wp2_with (at_builtin; refine halt ?_)
            refine go_on (wpList_app1 rfl TB _ _ rfl (by rfl) (Rep.own_later hown3 (by first | (with_reducible rfl) | omega | (simp; done) | (simp; omega) | (intro b hb; (try dsimp only at hb); simp; omega) | (intro b hb; (try dsimp only at hb); simp [Value.ownBlock]; omega) | (intro b hb; exact hb.elim) | (go_grown; done))) [_] (ub n1) rfl (cell_one_new _ _ _) (rd_u8 EN.out) (by first | (with_reducible rfl) | omega | (simp; done) | (simp; omega) | (intro b hb; (try dsimp only at hb); simp; omega) | (intro b hb; (try dsimp only at hb); simp [Value.ownBlock]; omega) | (intro b hb; exact hb.elim) | (go_grown; done)) (by first | (with_reducible rfl) | omega | (simp; done) | (simp; omega) | (intro b hb; (try dsimp only at hb); simp; omega) | (intro b hb; (try dsimp only at hb); simp [Value.ownBlock]; omega) | (intro b hb; exact hb.elim) | (go_grown; done)) (by first | (with_reducible rfl) | omega | (simp; done) | (simp; omega) | (intro b hb; (try dsimp only at hb); simp; omega) | (intro b hb; (try dsimp only at hb); simp [Value.ownBlock]; omega) | (intro b hb; exact hb.elim) | (go_grown; done)) (by first | (with_reducible rfl) | omega | (simp; done) | (simp; omega) | (intro b hb; (try dsimp only at hb); simp; omega) | (intro b hb; (try dsimp only at hb); simp [Value.ownBlock]; omega) | (intro b hb; exact hb.elim) | (go_grown; done)) ?_)
            intro v8 w8 hown8 hg8 _
            have hB8 := below_app (hB3.alloc hB3.size _) (Rep.own_later hown3 (by first | (with_reducible rfl) | omega | (simp; done) | (simp; omega) | (intro b hb; (try dsimp only at hb); simp; omega) | (intro b hb; (try dsimp only at hb); simp [Value.ownBlock]; omega) | (intro b hb; exact hb.elim) | (go_grown; done))) hg8 (Nat.le_refl _)
            have hbx8 := box_app (box_alloc hbx3 _) (Rep.own_later hown3 (by first | (with_reducible rfl) | omega | (simp; done) | (simp; omega) | (intro b hb; (try dsimp only at hb); simp; omega) | (intro b hb; (try dsimp only at hb); simp [Value.ownBlock]; omega) | (intro b hb; exact hb.elim) | (go_grown; done))) (by decide) hg8
            clear hc0 hc1 hc2 hc3 hc4 hc5 hc6 hbx3 hg8 hown3 hB3
            have hc := boxed hbx8
            have hc0 := hc 0 _ rfl; have hc1 := hc 1 _ rfl; have hc2 := hc 2 _ rfl; have hc3 := hc 3 _ rfl; have hc4 := hc 4 _ rfl; have hc5 := hc 5 _ rfl; have hc6 := hc 6 _ rfl
            clear hc
            have hsz8 := hB8.size
            go_wp2
            go_loopw [4, 70] (fun out i wq => ∃ (j : Nat), j ≤ n1 ∧ i = .int .i64 j ∧ Rep.u8.own 5 wq w.heap.size (fun _ => False) out (pre2 ++ [ub n1] ++ (x.refs.take j).flatMap twoB) ∧ Below w.heap.size w wq) (fun _ i _ => n1 - (intOf i).toNat)
            case atStart => exact ⟨0, Nat.zero_le _, rfl, by simpa using hown8, hB8⟩
            case round =>
              obtain ⟨j, hj, rfl, hownj, hBj⟩ := hrel
              have hszj := hBj.size
              have hszr := hB8.size
              by_cases hjl : j < n1
              · obtain ⟨b', o', y, es, rfl, hb', hy, ⟨rfl, hyr⟩, hcy⟩ := Rep.sl_at (Rep.sl_below (Rep.sl_back HS1.out hB (fun _ h => h)) hBj (fun _ h => h)) hjl
                have hcy0 := hcy 0 _ rfl
                simp [Rep.i64] at hcy0
                have HY := Lib.hid hy
                have hy2 := HR2.out y (List.mem_of_getElem? hy)
                have hlj : (pre2 ++ [ub n1] ++ (x.refs.take j).flatMap twoB).length ≤ 1000000000 := by simp only [List.length_append, List.length_singleton, flat_twoB_len, List.length_take]; omega
                have HT : Hid (pre2 ++ [ub n1] ++ (x.refs.take j).flatMap twoB ++ twoB y = pre2 ++ [ub n1] ++ (x.refs.take (j + 1)).flatMap twoB) := by
                  show _ = _
                  rw [List.take_add_one, HY.out]
                  simp
                clear hcy hy
                go_wp2_with fail
                refine Calls.mono (wide_c y _ _ _ _ hownj hlj hszj hy2.1 hy2.2) ?_
                rintro e w9 ⟨v9, rfl, hown9, hg9⟩
                have hB9 := below_app hBj hownj hg9 (Nat.le_refl _)
                rw [HT.out] at hown9
                clear hg9 hownj hcy0
                go_wp2
                go_roundw
                case rel => exact ⟨j + 1, by omega, by go_num, hown9, hB9⟩
                case measure => simp [intOf]; omega
              · have HT : Hid (pre2 ++ [ub n1] ++ (x.refs.take j).flatMap twoB = (ls.take (k + 1)).flatMap lineB) := by
                  show _ = _
                  rw [List.take_add_one, HX.out, List.take_of_length_le (by have := HN1.out; omega), HH.out, List.flatMap_append, HPRE.out, HN1.out]
                  simp [lineB_head]
                have HA : Hid (k + 1 ≤ 20000 ∧ (ls.take (k + 1)).all may = true) := by
                  refine ⟨by omega, ?_⟩
                  rw [List.take_add_one, HX.out]
                  simp [hall.out.2, HM.out]
                rw [HT.out] at hownj
                go_wp2
                go_roundw
                case rel => exact ⟨k + 1, by omega, by go_num, hownj, hBj, HA⟩
                case measure => simp [intOf]; omega
          · have h1 : ((x.kind.toNat : Int) == 1) = false := by
              simp only [beq_eq_false_iff_ne, ne_eq]
              intro e
              exact hk1 (UInt8.toNat_inj.1 (by simp; omega))
            go_wp2_with fail
            go_region_held3 (fun w' => w'.cell? ⟨g, 2, none⟩ = some (.bool x.cert) ∧ w'.cell? ⟨g, 3, none⟩ = some (.int .i64 x.index))
              (first | exact ⟨hc2, hc3⟩ | exact ⟨boxed hbx3 2 _ rfl, boxed hbx3 3 _ rfl⟩ | exact ⟨boxed hbx4 2 _ rfl, boxed hbx4 3 _ rfl⟩)
              (first | ((go_at_call 28; refine Calls.mono (bit_c x.cert _ _ _ _ hown2 (by simp; omega) hB2.size) ?_; rintro e w3 ⟨v3, rfl, hown3, hg3⟩; have hB3 := below_app hB2.drew (Rep.own_drew hown2) hg3 (Nat.le_refl _); have hbx3 := box_app (w := w2.drew) hbx2 (Rep.own_drew hown2) (by decide) hg3)) | ((go_at_call 27; refine Calls.mono (wide_c x.index _ _ _ _ hown3 (by simp; omega) hB3.size hi2.1 hi2.2) ?_; rintro e w4 ⟨v4, rfl, hown4, hg4⟩; have hB4 := below_app hB3 hown3 hg4 (Nat.le_refl _); have hbx4 := box_app hbx3 hown3 (by decide) hg4)))
            clear hc0 hc1 hc2 hc3 hc4 hc5 hc6 hg3 hg4 hbx2 hbx3 hown2 hown3 hB2 hB3
            have hc := boxed hbx4
            have hc0 := hc 0 _ rfl; have hc1 := hc 1 _ rfl; have hc2 := hc 2 _ rfl; have hc3 := hc 3 _ rfl; have hc4 := hc 4 _ rfl; have hc5 := hc 5 _ rfl; have hc6 := hc 6 _ rfl
            clear hc
            have hsz4 := hB4.size
            have EP := Lib.hid (ub_val (k := (x.path.length : Int)) (by omega) (by omega))
            go_wp2_with (at_builtin; refine halt ?_)
            refine go_on (wpList_app1 rfl TB _ _ rfl (by rfl) (Rep.own_later hown4 (by first | (with_reducible rfl) | omega | (simp; done) | (simp; omega) | (intro b hb; (try dsimp only at hb); simp; omega) | (intro b hb; (try dsimp only at hb); simp [Value.ownBlock]; omega) | (intro b hb; exact hb.elim) | (go_grown; done))) [_] (ub x.path.length) rfl (cell_one_new _ _ _) (rd_u8 EP.out) (by first | (with_reducible rfl) | omega | (simp; done) | (simp; omega) | (intro b hb; (try dsimp only at hb); simp; omega) | (intro b hb; (try dsimp only at hb); simp [Value.ownBlock]; omega) | (intro b hb; exact hb.elim) | (go_grown; done)) (by first | (with_reducible rfl) | omega | (simp; done) | (simp; omega) | (intro b hb; (try dsimp only at hb); simp; omega) | (intro b hb; (try dsimp only at hb); simp [Value.ownBlock]; omega) | (intro b hb; exact hb.elim) | (go_grown; done)) (by first | (with_reducible rfl) | omega | (simp; done) | (simp; omega) | (intro b hb; (try dsimp only at hb); simp; omega) | (intro b hb; (try dsimp only at hb); simp [Value.ownBlock]; omega) | (intro b hb; exact hb.elim) | (go_grown; done)) (by first | (with_reducible rfl) | omega | (simp; done) | (simp; omega) | (intro b hb; (try dsimp only at hb); simp; omega) | (intro b hb; (try dsimp only at hb); simp [Value.ownBlock]; omega) | (intro b hb; exact hb.elim) | (go_grown; done)) ?_)
            intro v5 w5 hown5 hg5 _
            have hB5 := below_app (hB4.alloc hB4.size _) (Rep.own_later hown4 (by first | (with_reducible rfl) | omega | (simp; done) | (simp; omega) | (intro b hb; (try dsimp only at hb); simp; omega) | (intro b hb; (try dsimp only at hb); simp [Value.ownBlock]; omega) | (intro b hb; exact hb.elim) | (go_grown; done))) hg5 (Nat.le_refl _)
            have hbx5 := box_app (box_alloc hbx4 _) (Rep.own_later hown4 (by first | (with_reducible rfl) | omega | (simp; done) | (simp; omega) | (intro b hb; (try dsimp only at hb); simp; omega) | (intro b hb; (try dsimp only at hb); simp [Value.ownBlock]; omega) | (intro b hb; exact hb.elim) | (go_grown; done))) (by decide) hg5
            clear hc0 hc1 hc2 hc3 hc4 hc5 hc6 hbx4 hg5 hown4 hB4
            have hc := boxed hbx5
            have hc0 := hc 0 _ rfl; have hc1 := hc 1 _ rfl; have hc2 := hc 2 _ rfl; have hc3 := hc 3 _ rfl; have hc4 := hc 4 _ rfl; have hc5 := hc 5 _ rfl; have hc6 := hc 6 _ rfl
            clear hc
            have hsz5 := hB5.size
            go_wp2_with fail
            go_region_held3 (fun w' => w'.cell? ⟨g, 4, none⟩ = some (.string ⟨x.path.toArray⟩) ∧ w'.cell? ⟨g, 5, none⟩ = some (.bool x.flag))
              (first | exact ⟨hc4, hc5⟩ | exact ⟨boxed hbx6 4 _ rfl, boxed hbx6 5 _ rfl⟩ | exact ⟨boxed hbx7 4 _ rfl, boxed hbx7 5 _ rfl⟩)
              (first | ((refine step_appT (by rfl) TB Try.underlying9 _ _ (by rfl) (by rfl) (Rep.own_drew hown5) (by rfl) (by simp [twoB_len]; omega) hB5.size ?_; intro v6 w6 hown6 hg6; have hB6 := below_app hB5.drew (Rep.own_drew hown5) hg6 (Nat.le_refl _); have hbx6 := box_app (w := w5.drew) hbx5 (Rep.own_drew hown5) (by decide) hg6)) | ((go_at_call 28; refine Calls.mono (bit_c x.flag _ _ _ _ hown6 (by simp [twoB_len]; omega) hB6.size) ?_; rintro e w7 ⟨v7, rfl, hown7, hg7⟩; have hB7 := below_app hB6 hown6 hg7 (Nat.le_refl _); have hbx7 := box_app hbx6 hown6 (by decide) hg7)))
            have HH : Hid (pre ++ [x.kind] ++ [bitB x.cert] ++ twoB x.index ++ [ub x.path.length] ++ x.path ++ [bitB x.flag] = pre ++ headB x) := by
              show _ = _
              rw [headB, if_neg hk1]
              simp only [List.append_assoc]
            have hlen : (pre ++ [x.kind] ++ [bitB x.cert] ++ twoB x.index ++ [ub x.path.length] ++ x.path ++ [bitB x.flag]).length ≤ 42 * k + 10 := by simp only [List.length_append, twoB_len, List.length_singleton]; omega
            generalize pre ++ [x.kind] ++ [bitB x.cert] ++ twoB x.index ++ [ub x.path.length] ++ x.path ++ [bitB x.flag] = pre2 at *
            clear hc0 hc1 hc2 hc3 hc4 hc5 hc6 hg6 hg7 hbx5 hbx6 hown5 hown6 hB5 hB6
            have hc := boxed hbx7
            have hc0 := hc 0 _ rfl; have hc1 := hc 1 _ rfl; have hc2 := hc 2 _ rfl; have hc3 := hc 3 _ rfl; have hc4 := hc 4 _ rfl; have hc5 := hc 5 _ rfl; have hc6 := hc 6 _ rfl
            clear hc
            have hszt := hB7.size
            have EN := Lib.hid (ub_val (k := (n1 : Int)) (by omega) (by omega))
            go_wp2_with (at_builtin; refine halt ?_)
            refine go_on (wpList_app1 rfl TB _ _ rfl (by rfl) (Rep.own_later hown7 (by first | (with_reducible rfl) | omega | (simp; done) | (simp; omega) | (intro b hb; (try dsimp only at hb); simp; omega) | (intro b hb; (try dsimp only at hb); simp [Value.ownBlock]; omega) | (intro b hb; exact hb.elim) | (go_grown; done))) [_] (ub n1) rfl (cell_one_new _ _ _) (rd_u8 EN.out) (by first | (with_reducible rfl) | omega | (simp; done) | (simp; omega) | (intro b hb; (try dsimp only at hb); simp; omega) | (intro b hb; (try dsimp only at hb); simp [Value.ownBlock]; omega) | (intro b hb; exact hb.elim) | (go_grown; done)) (by first | (with_reducible rfl) | omega | (simp; done) | (simp; omega) | (intro b hb; (try dsimp only at hb); simp; omega) | (intro b hb; (try dsimp only at hb); simp [Value.ownBlock]; omega) | (intro b hb; exact hb.elim) | (go_grown; done)) (by first | (with_reducible rfl) | omega | (simp; done) | (simp; omega) | (intro b hb; (try dsimp only at hb); simp; omega) | (intro b hb; (try dsimp only at hb); simp [Value.ownBlock]; omega) | (intro b hb; exact hb.elim) | (go_grown; done)) (by first | (with_reducible rfl) | omega | (simp; done) | (simp; omega) | (intro b hb; (try dsimp only at hb); simp; omega) | (intro b hb; (try dsimp only at hb); simp [Value.ownBlock]; omega) | (intro b hb; exact hb.elim) | (go_grown; done)) ?_)
            intro v8 w8 hown8 hg8 _
            have hB8 := below_app (hB7.alloc hB7.size _) (Rep.own_later hown7 (by first | (with_reducible rfl) | omega | (simp; done) | (simp; omega) | (intro b hb; (try dsimp only at hb); simp; omega) | (intro b hb; (try dsimp only at hb); simp [Value.ownBlock]; omega) | (intro b hb; exact hb.elim) | (go_grown; done))) hg8 (Nat.le_refl _)
            have hbx8 := box_app (box_alloc hbx7 _) (Rep.own_later hown7 (by first | (with_reducible rfl) | omega | (simp; done) | (simp; omega) | (intro b hb; (try dsimp only at hb); simp; omega) | (intro b hb; (try dsimp only at hb); simp [Value.ownBlock]; omega) | (intro b hb; exact hb.elim) | (go_grown; done))) (by decide) hg8
            clear hc0 hc1 hc2 hc3 hc4 hc5 hc6 hbx7 hg8 hown7 hB7
            have hc := boxed hbx8
            have hc0 := hc 0 _ rfl; have hc1 := hc 1 _ rfl; have hc2 := hc 2 _ rfl; have hc3 := hc 3 _ rfl; have hc4 := hc 4 _ rfl; have hc5 := hc 5 _ rfl; have hc6 := hc 6 _ rfl
            clear hc
            have hsz8 := hB8.size
            go_wp2
            go_loopw [4, 70] (fun out i wq => ∃ (j : Nat), j ≤ n1 ∧ i = .int .i64 j ∧ Rep.u8.own 5 wq w.heap.size (fun _ => False) out (pre2 ++ [ub n1] ++ (x.refs.take j).flatMap twoB) ∧ Below w.heap.size w wq) (fun _ i _ => n1 - (intOf i).toNat)
            case atStart => exact ⟨0, Nat.zero_le _, rfl, by simpa using hown8, hB8⟩
            case round =>
              obtain ⟨j, hj, rfl, hownj, hBj⟩ := hrel
              have hszj := hBj.size
              have hszr := hB8.size
              by_cases hjl : j < n1
              · obtain ⟨b', o', y, es, rfl, hb', hy, ⟨rfl, hyr⟩, hcy⟩ := Rep.sl_at (Rep.sl_below (Rep.sl_back HS1.out hB (fun _ h => h)) hBj (fun _ h => h)) hjl
                have hcy0 := hcy 0 _ rfl
                simp [Rep.i64] at hcy0
                have HY := Lib.hid hy
                have hy2 := HR2.out y (List.mem_of_getElem? hy)
                have hlj : (pre2 ++ [ub n1] ++ (x.refs.take j).flatMap twoB).length ≤ 1000000000 := by simp only [List.length_append, List.length_singleton, flat_twoB_len, List.length_take]; omega
                have HT : Hid (pre2 ++ [ub n1] ++ (x.refs.take j).flatMap twoB ++ twoB y = pre2 ++ [ub n1] ++ (x.refs.take (j + 1)).flatMap twoB) := by
                  show _ = _
                  rw [List.take_add_one, HY.out]
                  simp
                clear hcy hy
                go_wp2_with fail
                refine Calls.mono (wide_c y _ _ _ _ hownj hlj hszj hy2.1 hy2.2) ?_
                rintro e w9 ⟨v9, rfl, hown9, hg9⟩
                have hB9 := below_app hBj hownj hg9 (Nat.le_refl _)
                rw [HT.out] at hown9
                clear hg9 hownj hcy0
                go_wp2
                go_roundw
                case rel => exact ⟨j + 1, by omega, by go_num, hown9, hB9⟩
                case measure => simp [intOf]; omega
              · have HT : Hid (pre2 ++ [ub n1] ++ (x.refs.take j).flatMap twoB = (ls.take (k + 1)).flatMap lineB) := by
                  show _ = _
                  rw [List.take_add_one, HX.out, List.take_of_length_le (by have := HN1.out; omega), HH.out, List.flatMap_append, HPRE.out, HN1.out]
                  simp [lineB_head]
                have HA : Hid (k + 1 ≤ 20000 ∧ (ls.take (k + 1)).all may = true) := by
                  refine ⟨by omega, ?_⟩
                  rw [List.take_add_one, HX.out]
                  simp [hall.out.2, HM.out]
                rw [HT.out] at hownj
                go_wp2
                go_roundw
                case rel => exact ⟨k + 1, by omega, by go_num, hownj, hBj, HA⟩
                case measure => simp [intOf]; omega
      · have HP : Hid (putB ls = none) := by
          show _ = _
          unfold putB
          rw [if_neg]
          rintro ⟨h2, _⟩
          have := HL.out
          omega
        go_wp2
        go_ret2
        exact ⟨hB.alloc hB.size _, .inl ⟨HP.out, rfl⟩⟩
    · have HP : Hid (putB ls = some ((ls.take k).flatMap lineB)) := by
        show _ = _
        have := HL.out
        have h2 := hall.out
        rw [List.take_of_length_le (by omega)] at h2 ⊢
        unfold putB
        rw [if_pos ⟨by omega, h2.2⟩]
      go_wp2
      go_ret2
      exact ⟨hB, .inr ⟨_, _, HP.out, rfl, hown⟩⟩
end Go.Proofs.Ytkgkbaicjpgljaa
