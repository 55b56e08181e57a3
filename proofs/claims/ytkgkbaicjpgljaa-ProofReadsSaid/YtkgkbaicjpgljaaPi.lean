/- The reference of the package proof: a line's bytes. -/
import Derived.Test.YtkgkbaicjpgljaaPd
import Derived.Test.YtkgkbaicjpgljaaV
namespace Go.Proofs.Ytkgkbaicjpgljaa
open Go.RowKit
set_option linter.unusedVariables false

def twoOk (n : Int) : Bool := inR n
theorem may_no {l : Line} (h : ¬ ((inR l.dfn = true ∧ inR l.index = true) ∧ l.path.length ≤ 3 ∧ l.refs.length ≤ 16)) : may l = false := by
  refine Bool.eq_false_iff.2 fun hm => h ?_
  obtain ⟨h1, h2, _, h4, h5⟩ := may_facts hm
  exact ⟨⟨by simp [inR, h1], by simp [inR, h2]⟩, h4, h5⟩
@[go_sem] theorem guardSpotN (x y : Operand) (xs ys : Array Value) (w : World) : (eqGuard .neq 39 x y (.agg xs) (.agg ys)).run Try.prog w = .ok () w := run_eqGuard_agg w .neq _ x y xs ys (by kernel_rfl)
def TwoRef (k : Int) (w : World) (e : Ending) (w' : World) : Prop :=
  ∃ v, e = .returned (.tuple #[v, .bool (twoOk k)]) ∧ Below w.heap.size w w' ∧ Rep.u8.own 5 w' w.heap.size (fun _ => False) v (if twoOk k then twoB k else [])
theorem tworef_c (k : Int) (w : World) : Calls Try.prog 41 #[.int .i64 k] w (TwoRef k w) := by
  by_cases h0 : k < 0
  · have H : Hid (twoOk k = false) := by show _ = _; simp [twoOk, inR]; omega
    go_enter Try.func41, Try.ntmps41
    go_wp2
    go_ret2
    exact ⟨_, by rw [H.out]; rfl, (Below.refl _ _).alloc (Nat.le_refl _) _, by rw [H.out]; exact own_lit (r := Rep.u8) #[] [] rfl rfl (Nat.le_refl _) (by omega) rfl (fun _ (h : False) => h.elim) (by simp)⟩
  · by_cases h1 : 65535 < k
    · have H : Hid (twoOk k = false) := by show _ = _; simp [twoOk, inR]; omega
      go_enter Try.func41, Try.ntmps41
      go_wp2
      go_ret2
      exact ⟨_, by rw [H.out]; rfl, (Below.refl _ _).alloc (Nat.le_refl _) _, by rw [H.out]; exact own_lit (r := Rep.u8) #[] [] rfl rfl (Nat.le_refl _) (by omega) rfl (fun _ (h : False) => h.elim) (by simp)⟩
    · have H : Hid (twoOk k = true) := by show _ = _; simp [twoOk, inR]; omega
      have e1 := ub_val (k := k / 256) (by omega) (by omega)
      have e2 := ub_val (k := k % 256) (by omega) (by omega)
      have E1 := Lib.hid e1
      have E2 := Lib.hid e2
      clear e1 e2
      have hk0 : 0 ≤ k := by omega
      have hk1 : k ≤ 65535 := by omega
      go_enter Try.func41, Try.ntmps41
      go_wp2
      go_ret2
      refine ⟨_, by rw [H.out]; rfl, (Below.refl _ _).alloc (Nat.le_refl _) _, ?_⟩
      rw [H.out]
      exact own_lit (r := Rep.u8) _ (twoB k) rfl rfl (Nat.le_refl _) (by omega) rfl (fun _ (h : False) => h.elim) (rd_cons (r := Rep.u8) (cs := [_]) (rd_u8 E1.out) (rd_one (rd_u8 E2.out)))
theorem truth_c (b : Bool) (w : World) : Calls Try.prog 42 #[.bool b] w fun e w' => e = .returned (.int .u8 ((bitB b).toNat : Int)) ∧ w = w' := by
  cases b
  all_goals
    go_enter Try.func42, Try.ntmps42
    go_wp2
    go_ret
    exact ⟨rfl, rfl⟩

def LineRef (l : Line) (w : World) (e : Ending) (w' : World) : Prop :=
  ∃ v, e = .returned (.tuple #[v, .bool (may l)]) ∧ Below w.heap.size w w' ∧ (may l = true → Rep.u8.own 5 w' w.heap.size (fun _ => False) v (lineB l))

set_option maxRecDepth 100000 in
set_option maxHeartbeats 1000000 in
theorem lineref_c (l : Line) (cs : List Value) (w : World) (h : Rep.line.rd w (fun b => b < w.heap.size) cs l) (hn : l.refs.length ≤ 1000000000) :
    Calls Try.prog 29 #[.agg cs.toArray] w (LineRef l w) := by
  obtain ⟨rv, rfl, ⟨A, n, c, he, hs⟩, hd, hi, hp⟩ := h
  obtain rfl : rv = .slice A n c := by simpa using he
  have HN := Lib.hid hs.1
  have hn' : n ≤ 1000000000 := by have := hs.1; omega
  clear he
  have hbx0 := box_new w #[.int .u8 (l.kind.toNat : Int), .int .i64 l.dfn, .bool l.cert, .int .i64 l.index, .string ⟨l.path.toArray⟩, .bool l.flag, .slice A n c] 42
  by_cases hn16 : 16 < n
  · have HM : Hid (may l = false) := by
      exact may_no (fun h => by have := HN.out; omega)
    go_enter Try.func29, Try.ntmps29
    go_wp2
    go_ret2
    exact ⟨_, by rw [HM.out]; rfl, ((Below.refl _ _).alloc (Nat.le_refl _) _).alloc (by simp) _, by rw [HM.out]; intro h; cases h⟩
  · by_cases hk1 : l.kind = 1
    · have h1 : ((l.kind.toNat : Int) == 1) = true := by rw [hk1]; rfl
      have HK := Lib.hid hk1
      clear hk1
      go_enter Try.func29, Try.ntmps29
      go_wp2_with fail
      refine Calls.mono (tworef_c l.dfn _) ?_
      rintro e w1 ⟨v1, rfl, hb1, ho1⟩
      have hB1 : Below w.heap.size w w1 := (((Below.refl _ _).alloc (Nat.le_refl _) _).alloc (by simp) _).trans (hb1.mono (by simp; omega))
      have hbx1 := box_below (box_alloc hbx0 (.cells #[.int .u8 (l.kind.toNat : Int)] 5)) hb1 (by simp only [World.size_alloc]; omega)
      have hown1 : Rep.u8.own 5 w1 w.heap.size (fun _ => False) (.slice (some ⟨w.heap.size + 1, 0, none⟩) 1 1) [l.kind] :=
        Rep.own_later (own_lit (r := Rep.u8) #[.int .u8 (l.kind.toNat : Int)] [l.kind] (by simp) rfl (by simp) (by omega) rfl (fun _ (h : False) => h.elim) (rd_one rfl)) hb1
      clear hb1 hbx0
      have hc := boxed hbx1
      have hc0 := hc 0 _ rfl; have hc1 := hc 1 _ rfl; have hc2 := hc 2 _ rfl; have hc3 := hc 3 _ rfl; have hc4 := hc 4 _ rfl; have hc5 := hc 5 _ rfl; have hc6 := hc 6 _ rfl
      clear hc
      by_cases hdok : inR l.dfn = true
      · have hty : twoOk l.dfn = true := hdok
        rw [if_pos hty] at ho1
        by_cases hspot : l.cert = false ∧ l.index = 0 ∧ l.path = []
        · by_cases hfl : l.flag = false
          · have HMAY : Hid (may l = l.refs.all inR) := by
              show _ = _
              unfold may
              rw [if_pos HK.out, hspot.1, hspot.2.1, hspot.2.2, hfl]
              have := HN.out
              simp [hdok, show inR 0 = true from rfl, show l.refs.length ≤ 16 by omega]
            have HH : Hid ([l.kind] ++ twoB l.dfn = headB l) := by
              show _ = _
              rw [headB, if_pos HK.out]
            have hsp : ((!l.cert && l.index == 0) && l.path.isEmpty) = true := by rw [hspot.1, hspot.2.1, hspot.2.2]; rfl
            obtain ⟨Ad, cd, rfl, hsd⟩ := Rep.own_sl ho1
            obtain ⟨hs1, hs2, hs3⟩ := hspot
            have H3 := Lib.hid hs3
            clear hdok hs3
            have hsz1 := hB1.size
            go_wp2_with (at_builtin; refine halt ?_)
            refine go_on (wpList_appF rfl flat_u8 TB _ _ rfl (by rfl) hown1 (by rfl) hsd (by first | (with_reducible rfl) | omega | (simp; done) | (simp; omega) | (intro b hb; (try dsimp only at hb); simp; omega) | (intro b hb; (try dsimp only at hb); simp [Value.ownBlock]; omega) | (intro b hb; exact hb.elim) | (go_grown; done)) (by first | (with_reducible rfl) | omega | (simp; done) | (simp; omega) | (intro b hb; (try dsimp only at hb); simp; omega) | (intro b hb; (try dsimp only at hb); simp [Value.ownBlock]; omega) | (intro b hb; exact hb.elim) | (go_grown; done)) (by first | (with_reducible rfl) | omega | (simp; done) | (simp; omega) | (intro b hb; (try dsimp only at hb); simp; omega) | (intro b hb; (try dsimp only at hb); simp [Value.ownBlock]; omega) | (intro b hb; exact hb.elim) | (go_grown; done)) (fun _ (h : False) => h.elim) ?_)
            intro v2 w2 hown2 hg2 _
            have hB2 := below_app hB1 hown1 hg2 (Nat.le_refl _)
            have hbx2 := box_app hbx1 hown1 (by decide) hg2
            clear hc0 hc1 hc2 hc3 hc4 hc5 hc6 hbx1 hg2 hown1 hB1 hsz1
            have hc := boxed hbx2
            have hc0 := hc 0 _ rfl; have hc1 := hc 1 _ rfl; have hc2 := hc 2 _ rfl; have hc3 := hc 3 _ rfl; have hc4 := hc 4 _ rfl; have hc5 := hc 5 _ rfl; have hc6 := hc 6 _ rfl
            clear hc
            have hlen : ([l.kind] ++ twoB l.dfn).length ≤ 20 := by simp
            generalize [l.kind] ++ twoB l.dfn = pre2 at *
            clear hsd ho1 h1 hs1 hs2
            have hszt := hB2.size
            have EN := Lib.hid (ub_val (k := (n : Int)) (by omega) (by omega))
            have hsz2 := hB2.size
            go_wp2_with (at_builtin; refine halt ?_)
            refine go_on (wpList_app1 rfl TB _ _ rfl (by rfl) (Rep.own_later hown2 (by first | (with_reducible rfl) | omega | (simp; done) | (simp; omega) | (intro b hb; (try dsimp only at hb); simp; omega) | (intro b hb; (try dsimp only at hb); simp [Value.ownBlock]; omega) | (intro b hb; exact hb.elim) | (go_grown; done))) [_] (ub n) rfl (cell_one_new _ _ _) (rd_u8 EN.out) (by first | (with_reducible rfl) | omega | (simp; done) | (simp; omega) | (intro b hb; (try dsimp only at hb); simp; omega) | (intro b hb; (try dsimp only at hb); simp [Value.ownBlock]; omega) | (intro b hb; exact hb.elim) | (go_grown; done)) (by first | (with_reducible rfl) | omega | (simp; done) | (simp; omega) | (intro b hb; (try dsimp only at hb); simp; omega) | (intro b hb; (try dsimp only at hb); simp [Value.ownBlock]; omega) | (intro b hb; exact hb.elim) | (go_grown; done)) (by first | (with_reducible rfl) | omega | (simp; done) | (simp; omega) | (intro b hb; (try dsimp only at hb); simp; omega) | (intro b hb; (try dsimp only at hb); simp [Value.ownBlock]; omega) | (intro b hb; exact hb.elim) | (go_grown; done)) (by first | (with_reducible rfl) | omega | (simp; done) | (simp; omega) | (intro b hb; (try dsimp only at hb); simp; omega) | (intro b hb; (try dsimp only at hb); simp [Value.ownBlock]; omega) | (intro b hb; exact hb.elim) | (go_grown; done)) ?_)
            intro v8 w8 hown8 hg8 _
            have hB8 := below_app (hB2.alloc hB2.size _) (Rep.own_later hown2 (by first | (with_reducible rfl) | omega | (simp; done) | (simp; omega) | (intro b hb; (try dsimp only at hb); simp; omega) | (intro b hb; (try dsimp only at hb); simp [Value.ownBlock]; omega) | (intro b hb; exact hb.elim) | (go_grown; done))) hg8 (Nat.le_refl _)
            have hbx8 := box_app (box_alloc hbx2 _) (Rep.own_later hown2 (by first | (with_reducible rfl) | omega | (simp; done) | (simp; omega) | (intro b hb; (try dsimp only at hb); simp; omega) | (intro b hb; (try dsimp only at hb); simp [Value.ownBlock]; omega) | (intro b hb; exact hb.elim) | (go_grown; done))) (by decide) hg8
            skip
            clear hc0 hc1 hc2 hc3 hc4 hc5 hc6 hbx2 hg8 hown2 hB2 hsz2
            have hc := boxed hbx8
            have hc0 := hc 0 _ rfl; have hc1 := hc 1 _ rfl; have hc2 := hc 2 _ rfl; have hc3 := hc 3 _ rfl; have hc4 := hc 4 _ rfl; have hc5 := hc 5 _ rfl; have hc6 := hc 6 _ rfl
            clear hc
            have hsz8 := hB8.size
            go_wp2
            go_loopw [4, 117] (fun out i wq => ∃ (j : Nat), j ≤ n ∧ i = .int .i64 j ∧ Rep.u8.own 5 wq w.heap.size (fun _ => False) out (pre2 ++ [ub n] ++ (l.refs.take j).flatMap twoB) ∧ Below w.heap.size w wq ∧ Hid ((l.refs.take j).all inR = true) ∧ wq.heap[w.heap.size]? = some (.cells #[.int .u8 (l.kind.toNat : Int), .int .i64 l.dfn, .bool l.cert, .int .i64 l.index, .string ⟨l.path.toArray⟩, .bool l.flag, .slice A n c] 42 (0, 0))) (fun _ i _ => n - (intOf i).toNat)
            case atStart => exact ⟨0, Nat.zero_le _, rfl, by simpa using hown8, hB8, rfl, hbx8⟩
            case round =>
              obtain ⟨j, hj, rfl, hownj, hBj, hallj, hbxj⟩ := hrel
              have hszj := hBj.size
              clear hc0 hc1 hc2 hc3 hc4 hc5 hc6 hown8 hB8 hbx8 hsz8
              have hc := boxed hbxj
              have hc0 := hc 0 _ rfl; have hc1 := hc 1 _ rfl; have hc2 := hc 2 _ rfl; have hc3 := hc 3 _ rfl; have hc4 := hc 4 _ rfl; have hc5 := hc 5 _ rfl; have hc6 := hc 6 _ rfl
              clear hc
              by_cases hjl : j < n
              · obtain ⟨b', o', y, es, rfl, hb', hy, ⟨rfl, hyr⟩, hcy⟩ := Rep.sl_at (Rep.sl_below hs hBj (fun _ h => h)) hjl
                have hcy0 := hcy 0 _ rfl
                simp [Rep.i64] at hcy0
                have HY := Lib.hid hy
                have hlj : (pre2 ++ [ub n] ++ (l.refs.take j).flatMap twoB).length ≤ 1000000000 := by simp only [List.length_append, List.length_singleton, flat_twoB_len, List.length_take]; omega
                clear hcy hy
                go_wp2_with fail
                refine Calls.mono (tworef_c y _) ?_
                rintro e w9 ⟨v9, rfl, hb9, ho9⟩
                have hB9 := hBj.trans (hb9.mono hszj)
                by_cases hyok : inR y = true
                · have HT : Hid (pre2 ++ [ub n] ++ (l.refs.take j).flatMap twoB ++ twoB y = pre2 ++ [ub n] ++ (l.refs.take (j + 1)).flatMap twoB) := by
                    show _ = _
                    rw [List.take_add_one, HY.out]
                    simp
                  have HAL : Hid ((l.refs.take (j + 1)).all inR = true) := by
                    show _ = _
                    rw [List.take_add_one, HY.out]
                    simp [hallj.out, hyok]
                  have hty : twoOk y = true := hyok
                  rw [if_pos hty] at ho9
                  obtain ⟨A9, c9, rfl, hs9⟩ := Rep.own_sl ho9
                  have hown9 := Rep.own_later hownj hb9
                  have hbx9 := box_below hbxj hb9 (by have := (Array.getElem?_eq_some_iff.1 hbxj).1; omega)
                  have hsz9 := hB9.size
                  clear hownj hbxj hyok
                  go_wp2_with (at_builtin; refine halt ?_)
                  refine go_on (wpList_appF rfl flat_u8 TB _ _ rfl (by rfl) hown9 (by rfl) hs9 (by simp only [twoB_len]; omega) (by simp only [twoB_len]; omega) hsz9 (fun _ (h : False) => h.elim) ?_)
                  intro v10 w10 hown10 hg10 _
                  have hB10 := below_app hB9 hown9 hg10 (Nat.le_refl _)
                  have hbx10 := box_app hbx9 hown9 (by decide) hg10
                  rw [HT.out] at hown10
                  clear hg10 hown9 hcy0 hs9 ho9 hbx9
                  go_wp2
                  go_roundw
                  case rel => exact ⟨j + 1, by omega, by go_num, hown10, hB10, HAL, hbx10⟩
                  case measure => simp [intOf]; omega
                · have hyf : inR y = false := by simpa using hyok
                  have HMF : Hid (may l = false) := by
                    show _ = _
                    rw [HMAY.out, List.all_eq_false]
                    exact ⟨y, List.mem_of_getElem? HY.out, hyok⟩
                  have hty : twoOk y = false := hyf
                  clear hyok
                  go_wp2
                  go_ret2
                  exact ⟨_, by rw [HMF.out]; rfl, hB9, by rw [HMF.out]; intro h; cases h⟩
              · have HMT : Hid (may l = true) := by
                  show _ = _
                  have h := hallj.out
                  have h2 := HN.out
                  rw [List.take_of_length_le (by omega)] at h
                  rw [HMAY.out, h]
                have HT : Hid (pre2 ++ [ub n] ++ (l.refs.take j).flatMap twoB = lineB l) := by
                  show _ = _
                  have h2 := HN.out
                  rw [List.take_of_length_le (by omega), HH.out, lineB_head, h2]
                rw [HT.out] at hownj
                go_wp2
                go_ret2
                exact ⟨_, by rw [HMT.out]; rfl, hBj, fun _ => hownj⟩
          · have HMF : Hid (may l = false) := by
              show _ = _
              have : l.flag = true := by simpa using hfl
              unfold may
              rw [if_pos HK.out, this]
              simp
            have hfl' : l.flag = true := by simpa using hfl
            obtain ⟨hs1, hs2, hs3⟩ := hspot
            have hs3' : l.path.isEmpty = true := by rw [hs3]; rfl
            clear hs3 hfl hdok ho1
            go_wp2
            go_ret2
            exact ⟨_, by rw [HMF.out]; rfl, hB1, by rw [HMF.out]; intro h; cases h⟩
        · have HMF : Hid (may l = false) := by
            show _ = _
            refine Bool.eq_false_iff.2 fun hm => hspot ?_
            unfold may at hm
            rw [if_pos HK.out] at hm
            simp at hm
            exact ⟨hm.2.1.1.1.1, hm.2.1.1.1.2, hm.2.1.1.2⟩
          clear hdok ho1
          by_cases hs1 : l.cert = true
          · go_wp2
            go_ret2
            exact ⟨_, by rw [HMF.out]; rfl, hB1, by rw [HMF.out]; intro h; cases h⟩
          · have hs1' : l.cert = false := by simpa using hs1
            by_cases hs2 : l.index = 0
            · have hs3 : l.path.isEmpty = false := by
                cases hp : l.path with
                | nil => exact absurd ⟨hs1', hs2, hp⟩ hspot
                | cons a t => rfl
              clear hs1 hspot
              go_wp2
              go_ret2
              exact ⟨_, by rw [HMF.out]; rfl, hB1, by rw [HMF.out]; intro h; cases h⟩
            · have hs2' : (l.index == 0) = false := by simpa using hs2
              clear hs1 hspot
              go_wp2
              go_ret2
              exact ⟨_, by rw [HMF.out]; rfl, hB1, by rw [HMF.out]; intro h; cases h⟩
      · have HMF : Hid (may l = false) := by
          show _ = _
          exact may_no (fun h => hdok h.1.1)
        have hty : twoOk l.dfn = false := by simpa [twoOk] using hdok
        clear hdok ho1
        go_wp2
        go_ret2
        exact ⟨_, by rw [HMF.out]; rfl, hB1, by rw [HMF.out]; intro h; cases h⟩
    · have h1 : ((l.kind.toNat : Int) == 1) = false := by
        simp only [beq_eq_false_iff_ne, ne_eq]
        intro e
        exact hk1 (UInt8.toNat_inj.1 (by simp; omega))
      have HK := Lib.hid hk1
      clear hk1
      have HMX : Hid (may l = true → (decide (2 ≤ l.kind.toNat) && decide (l.kind.toNat ≤ 4) && l.dfn == 0 && decide (l.refs.length ≤ 16)) = true) := by
        intro hm
        unfold may at hm
        rw [if_neg HK.out] at hm
        simp only [Bool.and_eq_true] at hm ⊢
        exact hm.2
      go_enter Try.func29, Try.ntmps29
      go_wp2_with fail
      refine Calls.mono (tworef_c l.index _) ?_
      rintro e w1 ⟨v1, rfl, hb1, ho1⟩
      have hB1 : Below w.heap.size w w1 := (((Below.refl _ _).alloc (Nat.le_refl _) _).alloc (by simp) _).trans (hb1.mono (by simp; omega))
      have hbx1 := box_below (box_alloc hbx0 (.cells #[.int .u8 (l.kind.toNat : Int)] 5)) hb1 (by simp only [World.size_alloc]; omega)
      have hown1 : Rep.u8.own 5 w1 w.heap.size (fun _ => False) (.slice (some ⟨w.heap.size + 1, 0, none⟩) 1 1) [l.kind] :=
        Rep.own_later (own_lit (r := Rep.u8) #[.int .u8 (l.kind.toNat : Int)] [l.kind] (by simp) rfl (by simp) (by omega) rfl (fun _ (h : False) => h.elim) (rd_one rfl)) hb1
      have hsw1 := hb1.size
      simp only [World.size_alloc] at hsw1
      clear hb1 hbx0
      have hc := boxed hbx1
      have hc0 := hc 0 _ rfl; have hc1 := hc 1 _ rfl; have hc2 := hc 2 _ rfl; have hc3 := hc 3 _ rfl; have hc4 := hc 4 _ rfl; have hc5 := hc 5 _ rfl; have hc6 := hc 6 _ rfl
      clear hc
      by_cases hiok : inR l.index = true
      · have hty : twoOk l.index = true := hiok
        rw [if_pos hty] at ho1
        by_cases hk2 : 2 ≤ l.kind.toNat
        · by_cases hk4 : l.kind.toNat ≤ 4
          · by_cases hd0 : l.dfn = 0
            · have hd0' : (l.dfn != 0) = false := by rw [hd0]; rfl
              by_cases hp3 : l.path.length ≤ 3
              · have HMAY : Hid (may l = l.refs.all inR) := by
                  show _ = _
                  unfold may
                  rw [if_neg HK.out]
                  have := HN.out
                  simp [hiok, hk2, hk4, hd0, hp3, show inR 0 = true from rfl, show l.refs.length ≤ 16 by omega]
                have HH : Hid ([l.kind] ++ [bitB l.cert] ++ twoB l.index ++ [ub l.path.length] ++ l.path ++ [bitB l.flag] = headB l) := by
                  show _ = _
                  rw [headB, if_neg HK.out]
                  simp
                have hlt1 := Rep.own_lt ho1
                simp only [World.size_alloc] at hlt1
                clear hd0 hiok
                go_wp2_with fail
                refine Calls.mono (truth_c l.cert _) ?_
                rintro e w1' ⟨rfl, rfl⟩
                have hsz1 := hB1.size
                go_wp2_with (at_builtin; refine halt ?_)
                refine go_on (wpList_app1 rfl TB _ _ rfl (by rfl) (Rep.own_later hown1 (by first | (with_reducible rfl) | omega | (simp; done) | (simp; omega) | (intro b hb; (try dsimp only at hb); simp; omega) | (intro b hb; (try dsimp only at hb); simp [Value.ownBlock]; omega) | (intro b hb; exact hb.elim) | (go_grown; done))) [_] (bitB l.cert) rfl (cell_one_new _ _ _) rfl (by first | (with_reducible rfl) | omega | (simp; done) | (simp; omega) | (intro b hb; (try dsimp only at hb); simp; omega) | (intro b hb; (try dsimp only at hb); simp [Value.ownBlock]; omega) | (intro b hb; exact hb.elim) | (go_grown; done)) (by first | (with_reducible rfl) | omega | (simp; done) | (simp; omega) | (intro b hb; (try dsimp only at hb); simp; omega) | (intro b hb; (try dsimp only at hb); simp [Value.ownBlock]; omega) | (intro b hb; exact hb.elim) | (go_grown; done)) (by first | (with_reducible rfl) | omega | (simp; done) | (simp; omega) | (intro b hb; (try dsimp only at hb); simp; omega) | (intro b hb; (try dsimp only at hb); simp [Value.ownBlock]; omega) | (intro b hb; exact hb.elim) | (go_grown; done)) (by first | (with_reducible rfl) | omega | (simp; done) | (simp; omega) | (intro b hb; (try dsimp only at hb); simp; omega) | (intro b hb; (try dsimp only at hb); simp [Value.ownBlock]; omega) | (intro b hb; exact hb.elim) | (go_grown; done)) ?_)
                intro v2 w2 hown2 hg2 _
                have hB2 := below_app (hB1.alloc hB1.size _) (Rep.own_later hown1 (by first | (with_reducible rfl) | omega | (simp; done) | (simp; omega) | (intro b hb; (try dsimp only at hb); simp; omega) | (intro b hb; (try dsimp only at hb); simp [Value.ownBlock]; omega) | (intro b hb; exact hb.elim) | (go_grown; done))) hg2 (Nat.le_refl _)
                have hbx2 := box_app (box_alloc hbx1 _) (Rep.own_later hown1 (by first | (with_reducible rfl) | omega | (simp; done) | (simp; omega) | (intro b hb; (try dsimp only at hb); simp; omega) | (intro b hb; (try dsimp only at hb); simp [Value.ownBlock]; omega) | (intro b hb; exact hb.elim) | (go_grown; done))) (by decide) hg2
                have ho2 := Rep.own_kept (Rep.own_later ho1 (by first | (with_reducible rfl) | omega | (simp; done) | (simp; omega) | (intro b hb; (try dsimp only at hb); simp; omega) | (intro b hb; (try dsimp only at hb); simp [Value.ownBlock]; omega) | (intro b hb; exact hb.elim) | (go_grown; done))) hg2 (.inr (fun e => by have h2 := (hlt1 (w.heap.size + 1) e).1; omega)) (fun _ (h : False) => h.elim)
                clear hc0 hc1 hc2 hc3 hc4 hc5 hc6 hbx1 hg2 hown1 hB1 hsz1
                have hc := boxed hbx2
                have hc0 := hc 0 _ rfl; have hc1 := hc 1 _ rfl; have hc2 := hc 2 _ rfl; have hc3 := hc 3 _ rfl; have hc4 := hc 4 _ rfl; have hc5 := hc 5 _ rfl; have hc6 := hc 6 _ rfl
                clear hc
                obtain ⟨Ad, cd, rfl, hsd⟩ := Rep.own_sl ho2
                clear ho1 ho2 h1 hlt1
                have hsz2 := hB2.size
                go_wp2_with (at_builtin; refine halt ?_)
                refine go_on (wpList_appF rfl flat_u8 TB _ _ rfl (by rfl) hown2 (by rfl) hsd (by first | (with_reducible rfl) | omega | (simp; done) | (simp; omega) | (intro b hb; (try dsimp only at hb); simp; omega) | (intro b hb; (try dsimp only at hb); simp [Value.ownBlock]; omega) | (intro b hb; exact hb.elim) | (go_grown; done)) (by first | (with_reducible rfl) | omega | (simp; done) | (simp; omega) | (intro b hb; (try dsimp only at hb); simp; omega) | (intro b hb; (try dsimp only at hb); simp [Value.ownBlock]; omega) | (intro b hb; exact hb.elim) | (go_grown; done)) (by first | (with_reducible rfl) | omega | (simp; done) | (simp; omega) | (intro b hb; (try dsimp only at hb); simp; omega) | (intro b hb; (try dsimp only at hb); simp [Value.ownBlock]; omega) | (intro b hb; exact hb.elim) | (go_grown; done)) (fun _ (h : False) => h.elim) ?_)
                intro v3 w3 hown3 hg3 _
                have hB3 := below_app hB2 hown2 hg3 (Nat.le_refl _)
                have hbx3 := box_app hbx2 hown2 (by decide) hg3
                clear hc0 hc1 hc2 hc3 hc4 hc5 hc6 hbx2 hg3 hown2 hB2 hsz2
                have hc := boxed hbx3
                have hc0 := hc 0 _ rfl; have hc1 := hc 1 _ rfl; have hc2 := hc 2 _ rfl; have hc3 := hc 3 _ rfl; have hc4 := hc 4 _ rfl; have hc5 := hc 5 _ rfl; have hc6 := hc 6 _ rfl
                clear hc
                clear hsd
                have EP := Lib.hid (ub_val (k := (l.path.length : Int)) (by omega) (by omega))
                have hsz3 := hB3.size
                go_wp2_with (at_builtin; refine halt ?_)
                refine go_on (wpList_app1 rfl TB _ _ rfl (by rfl) (Rep.own_later hown3 (by first | (with_reducible rfl) | omega | (simp; done) | (simp; omega) | (intro b hb; (try dsimp only at hb); simp; omega) | (intro b hb; (try dsimp only at hb); simp [Value.ownBlock]; omega) | (intro b hb; exact hb.elim) | (go_grown; done))) [_] (ub l.path.length) rfl (cell_one_new _ _ _) (rd_u8 EP.out) (by first | (with_reducible rfl) | omega | (simp; done) | (simp; omega) | (intro b hb; (try dsimp only at hb); simp; omega) | (intro b hb; (try dsimp only at hb); simp [Value.ownBlock]; omega) | (intro b hb; exact hb.elim) | (go_grown; done)) (by first | (with_reducible rfl) | omega | (simp; done) | (simp; omega) | (intro b hb; (try dsimp only at hb); simp; omega) | (intro b hb; (try dsimp only at hb); simp [Value.ownBlock]; omega) | (intro b hb; exact hb.elim) | (go_grown; done)) (by first | (with_reducible rfl) | omega | (simp; done) | (simp; omega) | (intro b hb; (try dsimp only at hb); simp; omega) | (intro b hb; (try dsimp only at hb); simp [Value.ownBlock]; omega) | (intro b hb; exact hb.elim) | (go_grown; done)) (by first | (with_reducible rfl) | omega | (simp; done) | (simp; omega) | (intro b hb; (try dsimp only at hb); simp; omega) | (intro b hb; (try dsimp only at hb); simp [Value.ownBlock]; omega) | (intro b hb; exact hb.elim) | (go_grown; done)) ?_)
                intro v4 w4 hown4 hg4 _
                have hB4 := below_app (hB3.alloc hB3.size _) (Rep.own_later hown3 (by first | (with_reducible rfl) | omega | (simp; done) | (simp; omega) | (intro b hb; (try dsimp only at hb); simp; omega) | (intro b hb; (try dsimp only at hb); simp [Value.ownBlock]; omega) | (intro b hb; exact hb.elim) | (go_grown; done))) hg4 (Nat.le_refl _)
                have hbx4 := box_app (box_alloc hbx3 _) (Rep.own_later hown3 (by first | (with_reducible rfl) | omega | (simp; done) | (simp; omega) | (intro b hb; (try dsimp only at hb); simp; omega) | (intro b hb; (try dsimp only at hb); simp [Value.ownBlock]; omega) | (intro b hb; exact hb.elim) | (go_grown; done))) (by decide) hg4
                skip
                clear hc0 hc1 hc2 hc3 hc4 hc5 hc6 hbx3 hg4 hown3 hB3 hsz3
                have hc := boxed hbx4
                have hc0 := hc 0 _ rfl; have hc1 := hc 1 _ rfl; have hc2 := hc 2 _ rfl; have hc3 := hc 3 _ rfl; have hc4 := hc 4 _ rfl; have hc5 := hc 5 _ rfl; have hc6 := hc 6 _ rfl
                clear hc
                obtain ⟨A5, c5, w5, hcv, hsl5, hb5⟩ := conv_sb Try.underlying9 Try.underlying25 Try.underlying5 w4 l.path hp
                have hB5 := hB4.trans (hb5.mono hB4.size)
                have hown5 := Rep.own_later hown4 hb5
                have hbx5 := box_below hbx4 hb5 (Array.getElem?_eq_some_iff.1 hbx4).1
                have hsz5 := hB5.size
                go_wp2_with (at_builtin; refine halt ?_)
                refine go_on (wpList_appF rfl flat_u8 TB _ _ rfl (by rfl) hown5 (by rfl) hsl5 (by first | (with_reducible rfl) | omega | (simp; done) | (simp; omega) | (intro b hb; (try dsimp only at hb); simp; omega) | (intro b hb; (try dsimp only at hb); simp [Value.ownBlock]; omega) | (intro b hb; exact hb.elim) | (go_grown; done)) (by first | (with_reducible rfl) | omega | (simp; done) | (simp; omega) | (intro b hb; (try dsimp only at hb); simp; omega) | (intro b hb; (try dsimp only at hb); simp [Value.ownBlock]; omega) | (intro b hb; exact hb.elim) | (go_grown; done)) (by first | (with_reducible rfl) | omega | (simp; done) | (simp; omega) | (intro b hb; (try dsimp only at hb); simp; omega) | (intro b hb; (try dsimp only at hb); simp [Value.ownBlock]; omega) | (intro b hb; exact hb.elim) | (go_grown; done)) (fun _ (h : False) => h.elim) ?_)
                intro v6 w6 hown6 hg6 _
                have hB6 := below_app hB5 hown5 hg6 (Nat.le_refl _)
                have hbx6 := box_app hbx5 hown5 (by decide) hg6
                clear hc0 hc1 hc2 hc3 hc4 hc5 hc6 hbx5 hg6 hown5 hB5 hsz5
                have hc := boxed hbx6
                have hc0 := hc 0 _ rfl; have hc1 := hc 1 _ rfl; have hc2 := hc 2 _ rfl; have hc3 := hc 3 _ rfl; have hc4 := hc 4 _ rfl; have hc5 := hc 5 _ rfl; have hc6 := hc 6 _ rfl
                clear hc
                clear hcv hsl5 hb5 hbx4 hown4 hB4
                go_wp2_with fail
                refine Calls.mono (truth_c l.flag _) ?_
                rintro e w6' ⟨rfl, rfl⟩
                have hsz6 := hB6.size
                go_wp2_with (at_builtin; refine halt ?_)
                refine go_on (wpList_app1 rfl TB _ _ rfl (by rfl) (Rep.own_later hown6 (by first | (with_reducible rfl) | omega | (simp; done) | (simp; omega) | (intro b hb; (try dsimp only at hb); simp; omega) | (intro b hb; (try dsimp only at hb); simp [Value.ownBlock]; omega) | (intro b hb; exact hb.elim) | (go_grown; done))) [_] (bitB l.flag) rfl (cell_one_new _ _ _) rfl (by first | (with_reducible rfl) | omega | (simp; done) | (simp; omega) | (intro b hb; (try dsimp only at hb); simp; omega) | (intro b hb; (try dsimp only at hb); simp [Value.ownBlock]; omega) | (intro b hb; exact hb.elim) | (go_grown; done)) (by first | (with_reducible rfl) | omega | (simp; done) | (simp; omega) | (intro b hb; (try dsimp only at hb); simp; omega) | (intro b hb; (try dsimp only at hb); simp [Value.ownBlock]; omega) | (intro b hb; exact hb.elim) | (go_grown; done)) (by first | (with_reducible rfl) | omega | (simp; done) | (simp; omega) | (intro b hb; (try dsimp only at hb); simp; omega) | (intro b hb; (try dsimp only at hb); simp [Value.ownBlock]; omega) | (intro b hb; exact hb.elim) | (go_grown; done)) (by first | (with_reducible rfl) | omega | (simp; done) | (simp; omega) | (intro b hb; (try dsimp only at hb); simp; omega) | (intro b hb; (try dsimp only at hb); simp [Value.ownBlock]; omega) | (intro b hb; exact hb.elim) | (go_grown; done)) ?_)
                intro v7 w7 hown7 hg7 _
                have hB7 := below_app (hB6.alloc hB6.size _) (Rep.own_later hown6 (by first | (with_reducible rfl) | omega | (simp; done) | (simp; omega) | (intro b hb; (try dsimp only at hb); simp; omega) | (intro b hb; (try dsimp only at hb); simp [Value.ownBlock]; omega) | (intro b hb; exact hb.elim) | (go_grown; done))) hg7 (Nat.le_refl _)
                have hbx7 := box_app (box_alloc hbx6 _) (Rep.own_later hown6 (by first | (with_reducible rfl) | omega | (simp; done) | (simp; omega) | (intro b hb; (try dsimp only at hb); simp; omega) | (intro b hb; (try dsimp only at hb); simp [Value.ownBlock]; omega) | (intro b hb; exact hb.elim) | (go_grown; done))) (by decide) hg7
                skip
                clear hc0 hc1 hc2 hc3 hc4 hc5 hc6 hbx6 hg7 hown6 hB6 hsz6
                have hc := boxed hbx7
                have hc0 := hc 0 _ rfl; have hc1 := hc 1 _ rfl; have hc2 := hc 2 _ rfl; have hc3 := hc 3 _ rfl; have hc4 := hc 4 _ rfl; have hc5 := hc 5 _ rfl; have hc6 := hc 6 _ rfl
                clear hc
                have hlen : ([l.kind] ++ [bitB l.cert] ++ twoB l.index ++ [ub l.path.length] ++ l.path ++ [bitB l.flag]).length ≤ 20 := by simp; omega
                generalize [l.kind] ++ [bitB l.cert] ++ twoB l.index ++ [ub l.path.length] ++ l.path ++ [bitB l.flag] = pre2 at *
                have hszt := hB7.size
                have EN := Lib.hid (ub_val (k := (n : Int)) (by omega) (by omega))
                have hsz7 := hB7.size
                go_wp2_with (at_builtin; refine halt ?_)
                refine go_on (wpList_app1 rfl TB _ _ rfl (by rfl) (Rep.own_later hown7 (by first | (with_reducible rfl) | omega | (simp; done) | (simp; omega) | (intro b hb; (try dsimp only at hb); simp; omega) | (intro b hb; (try dsimp only at hb); simp [Value.ownBlock]; omega) | (intro b hb; exact hb.elim) | (go_grown; done))) [_] (ub n) rfl (cell_one_new _ _ _) (rd_u8 EN.out) (by first | (with_reducible rfl) | omega | (simp; done) | (simp; omega) | (intro b hb; (try dsimp only at hb); simp; omega) | (intro b hb; (try dsimp only at hb); simp [Value.ownBlock]; omega) | (intro b hb; exact hb.elim) | (go_grown; done)) (by first | (with_reducible rfl) | omega | (simp; done) | (simp; omega) | (intro b hb; (try dsimp only at hb); simp; omega) | (intro b hb; (try dsimp only at hb); simp [Value.ownBlock]; omega) | (intro b hb; exact hb.elim) | (go_grown; done)) (by first | (with_reducible rfl) | omega | (simp; done) | (simp; omega) | (intro b hb; (try dsimp only at hb); simp; omega) | (intro b hb; (try dsimp only at hb); simp [Value.ownBlock]; omega) | (intro b hb; exact hb.elim) | (go_grown; done)) (by first | (with_reducible rfl) | omega | (simp; done) | (simp; omega) | (intro b hb; (try dsimp only at hb); simp; omega) | (intro b hb; (try dsimp only at hb); simp [Value.ownBlock]; omega) | (intro b hb; exact hb.elim) | (go_grown; done)) ?_)
                intro v8 w8 hown8 hg8 _
                have hB8 := below_app (hB7.alloc hB7.size _) (Rep.own_later hown7 (by first | (with_reducible rfl) | omega | (simp; done) | (simp; omega) | (intro b hb; (try dsimp only at hb); simp; omega) | (intro b hb; (try dsimp only at hb); simp [Value.ownBlock]; omega) | (intro b hb; exact hb.elim) | (go_grown; done))) hg8 (Nat.le_refl _)
                have hbx8 := box_app (box_alloc hbx7 _) (Rep.own_later hown7 (by first | (with_reducible rfl) | omega | (simp; done) | (simp; omega) | (intro b hb; (try dsimp only at hb); simp; omega) | (intro b hb; (try dsimp only at hb); simp [Value.ownBlock]; omega) | (intro b hb; exact hb.elim) | (go_grown; done))) (by decide) hg8
                skip
                clear hc0 hc1 hc2 hc3 hc4 hc5 hc6 hbx7 hg8 hown7 hB7 hsz7
                have hc := boxed hbx8
                have hc0 := hc 0 _ rfl; have hc1 := hc 1 _ rfl; have hc2 := hc 2 _ rfl; have hc3 := hc 3 _ rfl; have hc4 := hc 4 _ rfl; have hc5 := hc 5 _ rfl; have hc6 := hc 6 _ rfl
                clear hc
                have hsz8 := hB8.size
                go_wp2
                go_loopw [4, 117] (fun out i wq => ∃ (j : Nat), j ≤ n ∧ i = .int .i64 j ∧ Rep.u8.own 5 wq w.heap.size (fun _ => False) out (pre2 ++ [ub n] ++ (l.refs.take j).flatMap twoB) ∧ Below w.heap.size w wq ∧ Hid ((l.refs.take j).all inR = true) ∧ wq.heap[w.heap.size]? = some (.cells #[.int .u8 (l.kind.toNat : Int), .int .i64 l.dfn, .bool l.cert, .int .i64 l.index, .string ⟨l.path.toArray⟩, .bool l.flag, .slice A n c] 42 (0, 0))) (fun _ i _ => n - (intOf i).toNat)
                case atStart => exact ⟨0, Nat.zero_le _, rfl, by simpa using hown8, hB8, rfl, hbx8⟩
                case round =>
                  obtain ⟨j, hj, rfl, hownj, hBj, hallj, hbxj⟩ := hrel
                  have hszj := hBj.size
                  clear hc0 hc1 hc2 hc3 hc4 hc5 hc6 hown8 hB8 hbx8 hsz8
                  have hc := boxed hbxj
                  have hc0 := hc 0 _ rfl; have hc1 := hc 1 _ rfl; have hc2 := hc 2 _ rfl; have hc3 := hc 3 _ rfl; have hc4 := hc 4 _ rfl; have hc5 := hc 5 _ rfl; have hc6 := hc 6 _ rfl
                  clear hc
                  by_cases hjl : j < n
                  · obtain ⟨b', o', y, es, rfl, hb', hy, ⟨rfl, hyr⟩, hcy⟩ := Rep.sl_at (Rep.sl_below hs hBj (fun _ h => h)) hjl
                    have hcy0 := hcy 0 _ rfl
                    simp [Rep.i64] at hcy0
                    have HY := Lib.hid hy
                    have hlj : (pre2 ++ [ub n] ++ (l.refs.take j).flatMap twoB).length ≤ 1000000000 := by simp only [List.length_append, List.length_singleton, flat_twoB_len, List.length_take]; omega
                    clear hcy hy
                    go_wp2_with fail
                    refine Calls.mono (tworef_c y _) ?_
                    rintro e w9 ⟨v9, rfl, hb9, ho9⟩
                    have hB9 := hBj.trans (hb9.mono hszj)
                    by_cases hyok : inR y = true
                    · have HT : Hid (pre2 ++ [ub n] ++ (l.refs.take j).flatMap twoB ++ twoB y = pre2 ++ [ub n] ++ (l.refs.take (j + 1)).flatMap twoB) := by
                        show _ = _
                        rw [List.take_add_one, HY.out]
                        simp
                      have HAL : Hid ((l.refs.take (j + 1)).all inR = true) := by
                        show _ = _
                        rw [List.take_add_one, HY.out]
                        simp [hallj.out, hyok]
                      have hty : twoOk y = true := hyok
                      rw [if_pos hty] at ho9
                      obtain ⟨A9, c9, rfl, hs9⟩ := Rep.own_sl ho9
                      have hown9 := Rep.own_later hownj hb9
                      have hbx9 := box_below hbxj hb9 (by have := (Array.getElem?_eq_some_iff.1 hbxj).1; omega)
                      have hsz9 := hB9.size
                      clear hownj hbxj hyok
                      go_wp2_with (at_builtin; refine halt ?_)
                      refine go_on (wpList_appF rfl flat_u8 TB _ _ rfl (by rfl) hown9 (by rfl) hs9 (by simp only [twoB_len]; omega) (by simp only [twoB_len]; omega) hsz9 (fun _ (h : False) => h.elim) ?_)
                      intro v10 w10 hown10 hg10 _
                      have hB10 := below_app hB9 hown9 hg10 (Nat.le_refl _)
                      have hbx10 := box_app hbx9 hown9 (by decide) hg10
                      rw [HT.out] at hown10
                      clear hg10 hown9 hcy0 hs9 ho9 hbx9
                      go_wp2
                      go_roundw
                      case rel => exact ⟨j + 1, by omega, by go_num, hown10, hB10, HAL, hbx10⟩
                      case measure => simp [intOf]; omega
                    · have hyf : inR y = false := by simpa using hyok
                      have HMF : Hid (may l = false) := by
                        show _ = _
                        rw [HMAY.out, List.all_eq_false]
                        exact ⟨y, List.mem_of_getElem? HY.out, hyok⟩
                      have hty : twoOk y = false := hyf
                      clear hyok
                      go_wp2
                      go_ret2
                      exact ⟨_, by rw [HMF.out]; rfl, hB9, by rw [HMF.out]; intro h; cases h⟩
                  · have HMT : Hid (may l = true) := by
                      show _ = _
                      have h := hallj.out
                      have h2 := HN.out
                      rw [List.take_of_length_le (by omega)] at h
                      rw [HMAY.out, h]
                    have HT : Hid (pre2 ++ [ub n] ++ (l.refs.take j).flatMap twoB = lineB l) := by
                      show _ = _
                      have h2 := HN.out
                      rw [List.take_of_length_le (by omega), HH.out, lineB_head, h2]
                    rw [HT.out] at hownj
                    go_wp2
                    go_ret2
                    exact ⟨_, by rw [HMT.out]; rfl, hBj, fun _ => hownj⟩
              · have HMF : Hid (may l = false) := may_no (fun h => hp3 h.2.1)
                clear hd0 hiok ho1
                go_wp2
                go_ret2
                exact ⟨_, by rw [HMF.out]; rfl, hB1, by rw [HMF.out]; intro h; cases h⟩
            · have hd0' : (l.dfn != 0) = true := by simpa using hd0
              have HMF : Hid (may l = false) := Bool.eq_false_iff.2 fun hm => by have := HMX.out hm; simp at this; exact hd0 this.1.2
              clear hd0 hiok ho1
              go_wp2
              go_ret2
              exact ⟨_, by rw [HMF.out]; rfl, hB1, by rw [HMF.out]; intro h; cases h⟩
          · have HMF : Hid (may l = false) := Bool.eq_false_iff.2 fun hm => by have := HMX.out hm; simp at this; exact hk4 this.1.1.2
            clear hiok ho1
            go_wp2
            go_ret2
            exact ⟨_, by rw [HMF.out]; rfl, hB1, by rw [HMF.out]; intro h; cases h⟩
        · have HMF : Hid (may l = false) := Bool.eq_false_iff.2 fun hm => by have := HMX.out hm; simp at this; exact hk2 this.1.1.1
          clear hiok ho1
          go_wp2
          go_ret2
          exact ⟨_, by rw [HMF.out]; rfl, hB1, by rw [HMF.out]; intro h; cases h⟩
      · have HMF : Hid (may l = false) := may_no (fun h => hiok h.1.2)
        have hty : twoOk l.index = false := by simpa [twoOk] using hiok
        clear hiok ho1
        go_wp2
        go_ret2
        exact ⟨_, by rw [HMF.out]; rfl, hB1, by rw [HMF.out]; intro h; cases h⟩
end Go.Proofs.Ytkgkbaicjpgljaa
