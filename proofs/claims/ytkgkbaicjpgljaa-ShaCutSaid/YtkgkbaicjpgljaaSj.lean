/- The sum of what was written. -/
import Derived.Test.YtkgkbaicjpgljaaSi
import Derived.Deep.RegionLaw
namespace Go.Proofs.Ytkgkbaicjpgljaa
open Go.RowKit Go.Lib
set_option linter.unusedVariables false

/-- Rows of bytes. -/
def bcells (xs : List UInt8) : Array Value := (xs.map fun x => Value.int .u8 (x.toNat : Int)).toArray
theorem bcells_size (xs : List UInt8) : (bcells xs).size = xs.length := by simp [bcells]
theorem bcells_one (xs : List UInt8) : (bcells xs).all (·.oneCell') = true := by
  simp only [bcells, Array.all_toList.symm, List.all_eq_true, List.mem_map]
  rintro v ⟨n, _, rfl⟩
  rfl
theorem bcell_at {w : World} {g : Nat} {xs : List UInt8} {t : TypeId} (h : w.heap[g]? = some (.cells (bcells xs) t (0, 0))) {i : Nat} (hi : i < xs.length) : w.cell? ⟨g, i, none⟩ = some (.int .u8 ((xs.getD i 0).toNat : Int)) := by
  refine boxed h i _ ?_
  simp [bcells, hi]
theorem bcell_set {w : World} {g : Nat} {xs : List UInt8} {t : TypeId} (h : w.heap[g]? = some (.cells (bcells xs) t (0, 0))) (i : Nat) (n : UInt8) : (w.setCell ⟨g, i, none⟩ (.int .u8 (n.toNat : Int))).heap[g]? = some (.cells (bcells (xs.set i n)) t (0, 0)) := by
  rw [box_set h]
  congr 2
  apply Array.ext'
  simp [bcells, List.map_set]

def lenB (al : Nat) : List UInt8 := List.replicate 8 0 ++ (List.range 8).map fun j => UInt8.ofNat (8 * al / 2 ^ (8 * (7 - j)))
def zfill (n : Nat) : Nat := (240 - n % 128) % 128
def fillB (rest : List UInt8) (al : Nat) : List UInt8 := rest ++ [128] ++ List.replicate (zfill (rest.length + 1)) 0 ++ lenB al
def byteW (x : UInt64) : UInt8 := UInt8.ofNat x.toNat
def digest (st : List UInt64) : List UInt8 := (List.range 64).map fun i => byteW (sr (st.getD (i / 8) 0) (56 - 8 * (i % 8)))
def sumL (st : List UInt64) (rest : List UInt8) (al : Nat) : List UInt8 := digest (eat (fillB rest al).length st (fillB rest al)).1

def SumPost (st : List UInt64) (rest : List UInt8) (al : Nat) (w : World) (e : Ending) (w' : World) : Prop := e = .returned (.agg (bcells (sumL st rest al))) ∧ Below w.heap.size w w'

theorem hash_one (st ks : List UInt64) (A : Option Addr) (n c a : Nat) : (hashCells st ks (.slice A n c) a).all (·.oneCell') = true := by
  refine Array.all_eq_true_iff_forall_mem.2 fun v hv => ?_
  have hv' : v ∈ (st ++ ks).map (fun x => Value.int .u64 (x.toNat : Int)) ++ [Value.slice A n c, Value.int .u64 (a : Int)] := by simpa [hashCells] using hv
  rcases List.mem_append.1 hv' with h | h
  · obtain ⟨x, _, rfl⟩ := List.mem_map.1 h
    rfl
  · simp at h
    rcases h with rfl | rfl <;> rfl
theorem lenB_get {al i : Nat} (h : i < 16) : (lenB al).getD i 0 = if i < 8 then 0 else UInt8.ofNat (8 * al / 2 ^ (8 * (15 - i))) := by
  obtain h | h | h | h | h | h | h | h | h | h | h | h | h | h | h | h : i = 0 ∨ i = 1 ∨ i = 2 ∨ i = 3 ∨ i = 4 ∨ i = 5 ∨ i = 6 ∨ i = 7 ∨ i = 8 ∨ i = 9 ∨ i = 10 ∨ i = 11 ∨ i = 12 ∨ i = 13 ∨ i = 14 ∨ i = 15 := by omega
  all_goals
    subst h
    rfl
theorem byte_at {al i : Nat} (hal : al ≤ 1000000000) (hi : i ≤ 15) : IntKind.u8.wrap (IntKind.u64.wrap ((al : Int) * 8) / 2 ^ (8 * (15 - (i : Int))).toNat) = ((UInt8.ofNat (8 * al / 2 ^ (8 * (15 - i)))).toNat : Int) := by
  rw [show IntKind.u64.wrap ((al : Int) * 8) = (al : Int) * 8 from IntWalk.u64_in _ (by omega), show (8 * (15 - (i : Int))).toNat = 8 * (15 - i) by omega]
  rw [show (al : Int) * 8 = ((8 * al : Nat) : Int) by omega, show ((8 * al : Nat) : Int) / 2 ^ (8 * (15 - i)) = ((8 * al / 2 ^ (8 * (15 - i)) : Nat) : Int) by simp]
  rw [IntKind.wrap_u8, UInt8.toNat_ofNat']
  omega
def padB (n : Nat) (ps : List UInt8) : List UInt8 := ps ++ List.replicate (n - ps.length) 0
theorem padB_len {n : Nat} {ps : List UInt8} (h : ps.length ≤ n) : (padB n ps).length = n := by
  unfold padB
  rw [List.length_append, List.length_replicate]
  omega
theorem padB_set {n : Nat} {p : UInt8} {ps : List UInt8} (h : ps.length < n) : (padB n ps).set ps.length p = padB n (ps ++ [p]) := by
  unfold padB
  rw [List.set_append_right _ _ (Nat.le_refl _), Nat.sub_self, List.length_append, List.length_singleton, List.append_assoc]
  congr 1
  obtain ⟨k, hk⟩ : ∃ k, n - ps.length = k + 1 := ⟨n - ps.length - 1, by omega⟩
  rw [hk, List.replicate_succ, List.set_cons_zero, show n - (ps.length + 1) = k by omega]
  rfl
theorem digest_get {st : List UInt64} {i : Nat} (h : i < 64) : (digest st)[i]? = some (byteW (sr (st.getD (i / 8) 0) (56 - 8 * (i % 8)))) := by
  unfold digest
  rw [List.getElem?_map, List.getElem?_range h]
  rfl
theorem wrap_byteW (x : UInt64) : IntKind.u8.wrap (x.toNat : Int) = ((byteW x).toNat : Int) := u64_byte x
theorem zfill_test {n j : Nat} (h : j ≤ zfill n) : (n + j) % 128 = 112 ↔ j = zfill n := by
  unfold zfill at *
  omega
theorem zfill_lt (n : Nat) : zfill n < 128 := by unfold zfill; omega
attribute [local go_sem] wrap_byteW
set_option maxHeartbeats 4000000 in
set_option maxRecDepth 100000 in
theorem sum_c (st : List UInt64) (rest : List UInt8) (al lo g : Nat) (w : World) (hst : st.length = 8) (hh : HashAt w lo g st rest al) (hal : al ≤ 1000000000) (hrl : rest.length ≤ 1000000000) :
    Calls Try.prog 25 #[.pointer (some ⟨g, 0, none⟩)] w (SumPost st rest al w) := by
  obtain ⟨r, hb, ho⟩ := hh
  have hgl : g < w.heap.size := (Array.getElem?_eq_some_iff.1 hb).1
  obtain ⟨Ar, cr, hr, hslr⟩ := Rep.own_sl ho
  subst hr
  have hltr := Rep.own_lt ho
  have HST := Lib.hid hst
  clear hst
  have z76 := (zero_of_info (P := Try.prog) (t := 76) (v := .agg zeroHash) (n := 90) (by kernel_rfl)).1
  go_enter Try.func25, Try.ntmps25
  go_wp2_with (refine halt_load (ty := 76) rfl ?_)
  refine go_onO (wpList_load_row rfl _ _ rfl g rfl _ (hashCells st ks0 (.slice Ar rest.length cr) al) (0, 0) _ (box_alloc hb _) Try.underlying76 rfl (by rw [show (hashCells st ks0 (.slice Ar rest.length cr) al).size = 90 by simp [hashCells, HST.out, ks0_len]]; kernel_rfl) ?_)
  go_wp2_with (refine halt_store (ty := 76) rfl ?_)
  refine go_onO (wpList_storeR rfl _ _ _ rfl _ (hashCells st ks0 (.slice Ar rest.length cr) al) rfl rfl (box_at2 (by simp)) (by rw [show (hashCells st ks0 (.slice Ar rest.length cr) al).size = 90 by simp [hashCells, HST.out, ks0_len]]; kernel_rfl) (by rw [show (hashCells st ks0 (.slice Ar rest.length cr) al).size = 90 by simp [hashCells, HST.out, ks0_len]]; rfl) (hash_one _ _ _ _ _ _) ?_)
  intro w1 hx1 hg1 hs1
  have hq1 := box_grown (box_alloc (box_new w _ 46) _) hg1 (by intro e; injection e; omega)
  have hB1 := (((Below.refl w.heap.size w).alloc (Nat.le_refl _) _).alloc (by simp) _).grown hg1 (by simp; omega) (fun k e => by injection e; omega)
  simp only [World.size_alloc] at hs1
  have hz1 : w.heap.size + 2 ≤ w1.heap.size := by omega
  have hb1 := box_below hb hB1 hgl
  have hsl1 := Rep.sl_below hslr hB1 (fun b hb => by
    rcases hb with hb | hb
    · exact hb.elim
    · exact (hltr _ hb).2)
  have c88 := hash_rest HST.out hb1
  have HSB : Hid (∀ b, (False ∨ (Value.slice Ar rest.length cr).ownBlock = some b) → b < w1.heap.size) := fun b hb => by
    rcases hb with hb | hb
    · exact hb.elim
    · have := (hltr _ hb).2; omega
  clear hs1 hg1 z76 hb ho hslr hltr
  go_wp2_with fail
  refine Calls.mono (clone_c rest Ar rest.length cr _ _ hsl1 hrl HSB.out) ?_
  rintro e w2 ⟨v2, rfl, ho2, hB2⟩
  have hz2 := hB2.size
  have hx2 := box_below hx1 hB2 (by omega)
  have hq2 := box_below hq1 hB2 (by omega)
  have hb2 := box_below hb1 hB2 (by omega)
  have hB2' := hB1.trans (hB2.mono (by omega))
  clear hx1 hq1 hb1 hB1 hB2 hsl1 c88 HSB
  go_wp2_with (at_builtin; refine halt ?_)
  refine go_on (wpList_app1 rfl TU _ _ rfl (by rfl) (Rep.own_later ho2 (by first | (with_reducible rfl) | omega | (simp; done) | (simp; omega) | (intro b hb; (try dsimp only at hb); simp; omega) | (intro b hb; (try dsimp only at hb); simp [Value.ownBlock]; omega) | (intro b hb; exact hb.elim) | (go_grown; done))) [_] (128 : UInt8) rfl (cell_one_new _ _ _) rfl (by first | (with_reducible rfl) | omega | (simp; done) | (simp; omega) | (intro b hb; (try dsimp only at hb); simp; omega) | (intro b hb; (try dsimp only at hb); simp [Value.ownBlock]; omega) | (intro b hb; exact hb.elim) | (go_grown; done)) (by first | (with_reducible rfl) | omega | (simp; done) | (simp; omega) | (intro b hb; (try dsimp only at hb); simp; omega) | (intro b hb; (try dsimp only at hb); simp [Value.ownBlock]; omega) | (intro b hb; exact hb.elim) | (go_grown; done)) (by first | (with_reducible rfl) | omega | (simp; done) | (simp; omega) | (intro b hb; (try dsimp only at hb); simp; omega) | (intro b hb; (try dsimp only at hb); simp [Value.ownBlock]; omega) | (intro b hb; exact hb.elim) | (go_grown; done)) (by first | (with_reducible rfl) | omega | (simp; done) | (simp; omega) | (intro b hb; (try dsimp only at hb); simp; omega) | (intro b hb; (try dsimp only at hb); simp [Value.ownBlock]; omega) | (intro b hb; exact hb.elim) | (go_grown; done)) ?_)
  intro v3 w3 ho3 hg3 _
  have ho2' := Rep.own_later (w' := w2.alloc (.cells #[.int .u8 128] 5)) ho2 ((Below.refl _ _).alloc (Nat.le_refl _) _)
  have hx3 := box_app (box_alloc hx2 _) ho2' (by decide) hg3
  have hq3 := box_app (box_alloc hq2 _) ho2' (by decide) hg3
  have hb3 := box_app (box_alloc hb2 _) ho2' (by decide) hg3
  have hB3 := (hB2'.alloc (by omega) _).grown hg3 (by simp; omega) (fun k e => by have := (Rep.own_lt ho2' k e).1; omega)
  have hz3 := hg3.size
  simp only [World.size_alloc] at hz3
  have hne3 := own_blk ho3 hx3 (by decide)
  obtain ⟨A3, c3, hv3, _⟩ := Rep.own_sl ho3
  subst hv3
  have HL : Hid ((rest ++ [(128 : UInt8)]).length = rest.length + 1) := by show _ = _; simp
  have HFB : Hid (fillB rest al = rest ++ [128] ++ List.replicate (zfill (rest.length + 1)) 0 ++ lenB al) := rfl
  generalize hbuf : rest ++ [(128 : UInt8)] = buf at *
  have HBUF := Lib.hid hbuf
  clear hbuf hx2 hq2 hb2 hB2' ho2 ho2' hg3
  have x88 := hash_rest HST.out hx3
  have i88 := boxed_frozen hx3 88
  have hZ := zfill_lt (rest.length + 1)
  go_wp2
  go_loopg [] (zfill (rest.length + 1)) (fun k wr => ∃ (j : Nat), j + k = zfill (rest.length + 1) ∧ HashAt wr w.heap.size (w.heap.size + 1) st (buf ++ List.replicate j 0) al ∧ wr.heap[w.heap.size]? = some (.cells (bcells (List.replicate 64 0)) 46 (0, 0)) ∧
    wr.heap[g]? = some (.cells (hashCells st ks0 (.slice Ar rest.length cr) al) 76 (0, 0)) ∧ Below w.heap.size w wr ∧ w.heap.size + 2 ≤ wr.heap.size)
  case atStart => exact ⟨0, by omega, by simpa using ⟨_, hash_setRest HST.out hx3 _, Rep.own_setFar (Rep.own_base ho3 (fun k hk => by have := (Rep.own_lt ho3 k hk).1; omega)) (own_blk ho3 hx3 (by decide))⟩, box_far hq3 (by simp only; omega) _, box_far hb3 (by simp only; omega) _, hB3.setCell (by simp only; omega) _, by simp; omega⟩
  case round =>
    obtain ⟨j, hjk, ⟨rr, hX, hO⟩, hQ, hA, hB, hz⟩ := hrel
    obtain ⟨Ax, cx, hrr, _⟩ := Rep.own_sl hO
    subst hrr
    have HLJ : Hid ((buf ++ List.replicate j (0 : UInt8)).length = rest.length + 1 + j) := by show _ = _; rw [List.length_append, HL.out, List.length_replicate]
    have hlb := Nat.le_of_eq HLJ.out
    have y88 := hash_rest HST.out hX
    by_cases hj : j < zfill (rest.length + 1)
    · obtain ⟨k', rfl⟩ : ∃ k', gk = k' + 1 := ⟨gk - 1, by omega⟩
      have ht : (((buf ++ List.replicate j (0 : UInt8)).length : Int) % 128 != 112) = true := by
        have := mt (zfill_test (Nat.le_of_lt hj)).1 (by omega)
        rw [bne_iff_ne, HLJ.out]
        omega
      have HS : Hid (buf ++ List.replicate (j + 1) (0 : UInt8) = (buf ++ List.replicate j 0) ++ [0]) := by show _ = _; rw [List.append_assoc, List.replicate_succ']
      generalize buf ++ List.replicate j (0 : UInt8) = L at *
      go_wp2_with (at_builtin; refine halt ?_)
      refine go_on (wpList_app1 rfl TU _ _ rfl (by rfl) (Rep.own_later hO ((Below.refl _ _).alloc (Nat.le_refl _) _)) [_] (0 : UInt8) rfl (cell_one_new _ _ _) rfl (by omega) (by omega) (by simp; omega) (fun _ h => h.elim) ?_)
      intro v3 w3 ho3 hg3 _
      generalize hL3 : L ++ [(0 : UInt8)] = L3 at ho3
      have HL3 := Lib.hid hL3
      clear hL3
      have hO' := Rep.own_later hO ((Below.refl wr.heap.size wr).alloc (Nat.le_refl _) (.cells #[.int .u8 0] 5))
      have hx3 := box_app (box_alloc hX _) hO' (by decide) hg3
      have hq3 := box_app (box_alloc hQ _) hO' (by decide) hg3
      have hb3 := box_app (box_alloc hA _) hO' (by decide) hg3
      have hB3 := (hB.alloc (by omega) _).grown hg3 (by simp; omega) (fun k e => by have := (Rep.own_lt hO' k e).1; omega)
      have hz3 : w.heap.size + 2 ≤ w3.heap.size := by have := hg3.size; simp at this; omega
      obtain ⟨A3, c3, hv3, _⟩ := Rep.own_sl ho3
      subst hv3
      have x88 := hash_rest HST.out hx3
      have i88 := boxed_frozen hx3 88
      have hne3 := own_blk ho3 hx3 (by decide)
      clear hO' hg3 hX hO hQ hA hB
      go_wp2
      go_roundg k'
      case measure => omega
      case rel => exact ⟨j + 1, by omega, by rw [HS.out, HL3.out]; exact ⟨_, hash_setRest HST.out hx3 _, Rep.own_setFar ho3 (own_blk ho3 hx3 (by decide))⟩, box_far hq3 (by simp only; omega) _, box_far hb3 (by simp only; omega) _, hB3.setCell (by simp only; omega) _, by simp; omega⟩
    · have hje : j = zfill (rest.length + 1) := by omega
      have ht : (((buf ++ List.replicate j (0 : UInt8)).length : Int) % 128 != 112) = false := by
        have := (zfill_test (Nat.le_of_eq hje)).2 hje
        rw [bne_eq_false_iff_eq, HLJ.out]
        omega
      have HM : Hid (buf ++ List.replicate j 0 = rest ++ [128] ++ List.replicate (zfill (rest.length + 1)) 0) := by show _ = _; rw [hje, HBUF.out]
      clear hje
      generalize buf ++ List.replicate j (0 : UInt8) = L at *
      go_wp2
      clear ht hlb y88
      go_loopw [32] (fun ix wr => ∃ (i : Nat), i ≤ 16 ∧ ix = .int .i64 (i : Nat) ∧ HashAt wr w.heap.size (w.heap.size + 1) st (L ++ (lenB al).take i) al ∧ wr.heap[w.heap.size]? = some (.cells (bcells (List.replicate 64 0)) 46 (0, 0)) ∧
        wr.heap[g]? = some (.cells (hashCells st ks0 (.slice Ar rest.length cr) al) 76 (0, 0)) ∧ Below w.heap.size w wr ∧ w.heap.size + 2 ≤ wr.heap.size) (fun ix _ => 16 - (intOf ix).toNat)
      case atStart => exact ⟨0, by omega, rfl, ⟨_, hX, by simpa using hO⟩, hQ, hA, hB, hz⟩
      case round =>
        obtain ⟨i, hi, rfl, ⟨rr, hX, hO⟩, hQ, hA, hB, hz⟩ := hrel
        obtain ⟨Ax, cx, hrr, _⟩ := Rep.own_sl hO
        subst hrr
        by_cases h16 : i < 16
        · have HLI : Hid ((L ++ (lenB al).take i).length ≤ rest.length + 200) := by
            show _ ≤ _
            have h1 : (lenB al).length = 16 := rfl
            rw [List.length_append, List.length_take, h1, HM.out]
            simp only [List.length_append, List.length_replicate, List.length_singleton]
            omega
          have hlb := HLI.out
          have HS : Hid (L ++ (lenB al).take (i + 1) = (L ++ (lenB al).take i) ++ [(lenB al).getD i 0]) := by
            show _ = _
            have h1 : i < (lenB al).length := h16
            rw [List.take_add_one, show (lenB al)[i]? = some ((lenB al).getD i 0) by simp [List.getD, h1], List.append_assoc]
            rfl
          have HG : Hid ((lenB al).getD i 0 = if i < 8 then 0 else UInt8.ofNat (8 * al / 2 ^ (8 * (15 - i)))) := lenB_get h16
          have y88 := hash_rest HST.out hX
          have y89 := hash_all HST.out hA
          generalize hLL : L ++ (lenB al).take i = L' at *
          have HLL := Lib.hid hLL
          clear hLL
          by_cases h7 : i < 7
          · have h0 : (lenB al).getD i 0 = 0 := by rw [HG.out, if_pos (by omega)]
            have H0 := Lib.hid h0
            clear h0
            go_wp2_with (at_builtin; refine halt ?_)
            refine go_on (wpList_app1 rfl TU _ _ rfl (by rfl) (Rep.own_later hO ((Below.refl _ _).alloc (Nat.le_refl _) _)) [_] (0 : UInt8) rfl (cell_one_new _ _ _) rfl (by omega) (by omega) (by simp; omega) (fun _ h => h.elim) ?_)
            intro v3 w3 ho3 hg3 _
            generalize hL3 : L' ++ [(0 : UInt8)] = L3 at ho3
            have HL3 := Lib.hid hL3
            clear hL3
            have hO' := Rep.own_later hO ((Below.refl wr.heap.size wr).alloc (Nat.le_refl _) (.cells #[.int .u8 0] 5))
            have hx3 := box_app (box_alloc hX _) hO' (by decide) hg3
            have hq3 := box_app (box_alloc hQ _) hO' (by decide) hg3
            have hb3 := box_app (box_alloc hA _) hO' (by decide) hg3
            have hB3 := (hB.alloc (by omega) _).grown hg3 (by simp; omega) (fun k e => by have := (Rep.own_lt hO' k e).1; omega)
            have hz3 : w.heap.size + 2 ≤ w3.heap.size := by have := hg3.size; simp at this; omega
            obtain ⟨A3, c3, hv3, _⟩ := Rep.own_sl ho3
            subst hv3
            have x88 := hash_rest HST.out hx3
            have i88 := boxed_frozen hx3 88
            have hne3 := own_blk ho3 hx3 (by decide)
            clear hO' hg3 hX hO hQ hA hB
            go_wp2
            go_roundw
            case rel => exact ⟨i + 1, by omega, by go_num, by rw [HS.out, H0.out, HL3.out]; exact ⟨_, hash_setRest HST.out hx3 _, Rep.own_setFar ho3 (own_blk ho3 hx3 (by decide))⟩, box_far hq3 (by simp only; omega) _, box_far hb3 (by simp only; omega) _, hB3.setCell (by simp only; omega) _, by simp; omega⟩
            case measure => simp [intOf] <;> omega
          · by_cases h8 : i = 7
            · subst h8
              have h0 : (lenB al).getD 7 0 = 0 := by rw [HG.out, if_pos (by omega)]
              have H0 := Lib.hid h0
              clear h0
              have hsh : (al : Int) / 2305843009213693952 = 0 := by omega
              have hw0 : IntKind.u8.wrap 0 = 0 := by decide
              have y88o := fun (o : Obj) => hash_rest HST.out (box_alloc hX o)
              have y89o := fun (o : Obj) => hash_all HST.out (box_alloc hA o)
              go_wp2
              have hX := (show wr.drew.heap[w.heap.size + 1]? = _ from hX)
              have hQ := (show wr.drew.heap[w.heap.size]? = _ from hQ)
              have hA := (show wr.drew.heap[g]? = _ from hA)
              have hO := Rep.own_drew hO
              have hB := hB.drew
              have hz : w.heap.size + 2 ≤ wr.drew.heap.size := hz
              go_region_law (first | (refine step_app1 (by rfl) TU _ _ (by rfl) (by rfl) (Rep.own_later hO ((Below.refl _ _).alloc (Nat.le_refl _) _)) [_] (0 : UInt8) (by rfl) (cell_one_new _ _ _) rfl (by omega) (by omega) (by simp; omega) (fun _ (h : False) => h.elim) ?_; intro v3 w3 ho3 hg3; generalize hL3 : L' ++ [(0 : UInt8)] = L3 at ho3; have HL3 := Lib.hid hL3; clear hL3; have hO' := Rep.own_later hO ((Below.refl wr.drew.heap.size wr.drew).alloc (Nat.le_refl _) (.cells #[.int .u8 0] 5)); have hx3 := box_app (box_alloc hX _) hO' (by decide) hg3; have hq3 := box_app (box_alloc hQ _) hO' (by decide) hg3; have hb3 := box_app (box_alloc hA _) hO' (by decide) hg3; have hB3 := (hB.alloc (by omega) _).grown hg3 (by simp; omega) (fun k e => by have := (Rep.own_lt hO' k e).1; omega); have hz3 : w.heap.size + 2 ≤ w3.heap.size := (by have := hg3.size; simp at this; omega); obtain ⟨A3, c3, hv3, _⟩ := Rep.own_sl ho3; subst hv3; have x88 := hash_rest HST.out hx3; have i88 := boxed_frozen hx3 88; have hne3 := own_blk ho3 hx3 (by decide); clear hO' hg3 hX hO hQ hA hB))
              all_goals
                go_wp2
                go_roundw
                case rel => exact ⟨7 + 1, by omega, by go_num, by rw [HS.out, H0.out, HL3.out]; exact ⟨_, hash_setRest HST.out hx3 _, Rep.own_setFar ho3 (own_blk ho3 hx3 (by decide))⟩, box_far hq3 (by simp only; omega) _, box_far hb3 (by simp only; omega) _, hB3.setCell (by simp only; omega) _, by simp; omega⟩
                case measure => simp [intOf] <;> omega
            · have h0 : (lenB al).getD i 0 = UInt8.ofNat (8 * al / 2 ^ (8 * (15 - i))) := by rw [HG.out, if_neg (by omega)]
              have H0 := Lib.hid h0
              clear h0
              have hsh1 : (0 : Int) ≤ 8 * (15 - (i : Int)) := by omega
              have hsh2 : 8 * (15 - (i : Int)) ≤ 64 := by omega
              have y88o := fun (o : Obj) => hash_rest HST.out (box_alloc hX o)
              have y89o := fun (o : Obj) => hash_all HST.out (box_alloc hA o)
              have hT := byte_at (i := i) hal (by omega)
              generalize UInt8.ofNat (8 * al / 2 ^ (8 * (15 - i))) = y at *
              go_wp2
              have hX := (show wr.drew.heap[w.heap.size + 1]? = _ from hX)
              have hQ := (show wr.drew.heap[w.heap.size]? = _ from hQ)
              have hA := (show wr.drew.heap[g]? = _ from hA)
              have hO := Rep.own_drew hO
              have hB := hB.drew
              have hz : w.heap.size + 2 ≤ wr.drew.heap.size := hz
              go_region_law (first | (refine step_app1 (by rfl) TU _ _ (by rfl) (by rfl) (Rep.own_later hO ((Below.refl _ _).alloc (Nat.le_refl _) _)) [_] (y : UInt8) (by rfl) (cell_one_new _ _ _) rfl (by omega) (by omega) (by simp; omega) (fun _ (h : False) => h.elim) ?_; intro v3 w3 ho3 hg3; generalize hL3 : L' ++ [(y : UInt8)] = L3 at ho3; have HL3 := Lib.hid hL3; clear hL3; have hO' := Rep.own_later hO ((Below.refl wr.drew.heap.size wr.drew).alloc (Nat.le_refl _) (.cells #[.int .u8 (y.toNat : Int)] 5)); have hx3 := box_app (box_alloc hX _) hO' (by decide) hg3; have hq3 := box_app (box_alloc hQ _) hO' (by decide) hg3; have hb3 := box_app (box_alloc hA _) hO' (by decide) hg3; have hB3 := (hB.alloc (by omega) _).grown hg3 (by simp; omega) (fun k e => by have := (Rep.own_lt hO' k e).1; omega); have hz3 : w.heap.size + 2 ≤ w3.heap.size := (by have := hg3.size; simp at this; omega); obtain ⟨A3, c3, hv3, _⟩ := Rep.own_sl ho3; subst hv3; have x88 := hash_rest HST.out hx3; have i88 := boxed_frozen hx3 88; have hne3 := own_blk ho3 hx3 (by decide); clear hO' hg3 hX hO hQ hA hB))
              all_goals
                go_wp2
                go_roundw
                case rel => exact ⟨i + 1, by omega, by go_num, by rw [HS.out, H0.out, HL3.out]; exact ⟨_, hash_setRest HST.out hx3 _, Rep.own_setFar ho3 (own_blk ho3 hx3 (by decide))⟩, box_far hq3 (by simp only; omega) _, box_far hb3 (by simp only; omega) _, hB3.setCell (by simp only; omega) _, by simp; omega⟩
                case measure => simp [intOf] <;> omega
        · have hie : i = 16 := by omega
          have hall : L ++ (lenB al).take i = fillB rest al := by
            rw [hie, HFB.out, HM.out, ← HBUF.out, List.take_of_length_le (Nat.le_refl 16)]
          have HLF : Hid ((L ++ (lenB al).take i).length ≤ 1000000200) := by
            show _ ≤ _
            have h1 : (lenB al).length = 16 := rfl
            rw [List.length_append, List.length_take, h1, HM.out]
            simp only [List.length_append, List.length_replicate, List.length_singleton]
            omega
          rw [hall] at hX hO HLF
          clear hall
          have hmod : (fillB rest al).length % 128 = 0 := by
            unfold fillB
            have h1 : (lenB al).length = 16 := rfl
            have := (zfill_test (n := rest.length + 1) (Nat.le_refl _)).2 rfl
            simp only [List.length_append, List.length_replicate, List.length_singleton, h1]
            omega
          have HMOD := Lib.hid hmod
          clear hmod hie
          obtain ⟨_, _, hv9, hsl9⟩ := Rep.own_sl hO
          simp only [Value.slice.injEq] at hv9
          obtain ⟨rfl, _, rfl⟩ := hv9
          have hlt9 := Rep.own_lt hO
          have hne9 := own_blk hO hX (by decide)
          have hsl9' := Rep.sl_more (S' := fun b => w.heap.size ≤ b ∧ b < wr.heap.size ∧ b ≠ w.heap.size + 1 ∧ b ≠ w.heap.size) hsl9 (fun b hb => by
            rcases hb with hb | hb
            · exact hb.elim
            · exact ⟨(hlt9 _ hb).1, (hlt9 _ hb).2, fun e => hne9 (by rw [hb, e]), fun e => own_blk hO hQ (by decide) (by rw [hb, e])⟩)
          have HSUM : Hid (sumL st rest al = digest (eat (fillB rest al).length st (fillB rest al)).1) := rfl
          have hFL := HLF.out
          generalize fillB rest al = fb at *
          clear hsl9 hlt9 hne9 hO
          go_wp2
          go_loopg [] fb.length (fun k wr => ∃ (st1 : List UInt64) (buf : List UInt8) (A1 : Option Addr) (n1 c1 : Nat), st1.length = 8 ∧ wr.heap[w.heap.size + 1]? = some (.cells (hashCells st1 ks0 (.slice A1 n1 c1) al) 76 (0, 0)) ∧
            Rep.u8.sl wr (fun b => w.heap.size ≤ b ∧ b < wr.heap.size ∧ b ≠ w.heap.size + 1 ∧ b ≠ w.heap.size) A1 n1 c1 buf ∧ Hid (eat fb.length st fb = eat k st1 buf) ∧ buf.length ≤ k ∧ Hid (n1 % 128 = 0) ∧ wr.heap[w.heap.size]? = some (.cells (bcells (List.replicate 64 0)) 46 (0, 0)) ∧
            Below w.heap.size w wr ∧ w.heap.size + 2 ≤ wr.heap.size ∧ n1 ≤ 1000000200)
          case atStart => exact ⟨st, fb, _, _, _, HST.out, hX, hsl9', rfl, Nat.le_refl _, HMOD, hQ, hB, hz, hFL⟩
          case round =>
            obtain ⟨st1, buf, A1, n1, c1, hl1, hX4, hsl4, HK, hbk, hmod, hQ4, hB4, hz4, hn1⟩ := hrel
            have HL1 := Lib.hid hl1
            have HN1 := Lib.hid hsl4.1
            have d88 := hash_rest HL1.out hX4
            have g88 := boxed_frozen hX4 88
            have hnc1 := hsl4.2.1
            have hcm1 := hsl4.2.2.1
            clear hl1
            have HMD := hmod
            by_cases h0 : 0 < n1
            · have h128 : 128 ≤ n1 := by have := HMD.out; omega
              obtain ⟨B1, o1, rfl, hB1S, _⟩ := hsl4.2.2.2 (by omega)
              by_cases hcc : c1 = 128
              · subst hcc
                obtain rfl : n1 = 128 := by omega
                obtain ⟨k', rfl⟩ : ∃ k', gk = k' + 1 := ⟨gk - 1, by have := HN1.out; omega⟩
                have HK2 : Hid (eat fb.length st fb = eat k' (compress ks0 st1 (buf.take 128)) (buf.drop 128)) := by
                  show _ = _
                  rw [HK.out, eat, if_pos (by rw [HN1.out]; exact h128)]
                have htk := Rep.sl_take hsl4 h128
                have hcut := Rep.sl_cut hsl4 h128
                rw [show Rep.u8.size = 1 from rfl, Nat.mul_one] at hcut
                rw [if_pos rfl, Nat.sub_self] at hcut
                have hcl : (compress ks0 st1 (buf.take 128)).length = 8 := compress_len HL1.out
                have hdl : (buf.drop 128).length ≤ k' := by rw [List.length_drop]; omega
                have HC := Lib.hid hcut
                have HCL := Lib.hid hcl
                clear hcut hcl
                go_wp2_with fail
                refine Calls.mono (block_t st1 ks0 (.slice (some ⟨B1, o1, none⟩) 128 128) al (w.heap.size + 1) (buf.take 128) (some ⟨B1, o1, none⟩) 128 128 _ _ HL1.out ks0_len hX4 htk (Nat.le_refl _) (fun b hb => hb.2.1)) ?_
                rintro e w5 ⟨rfl, hX5, hg5⟩
                have hz5 := hg5.size
                have hcut5 := Rep.sl_grown HC.out hg5 (fun b hb => ⟨hb.2.1, fun e => hb.2.2.1 (by injection e)⟩)
                have hcut6 := Rep.sl_more (S' := fun b => w.heap.size ≤ b ∧ b < w5.heap.size ∧ b ≠ w.heap.size + 1 ∧ b ≠ w.heap.size) hcut5 (fun b hb => ⟨hb.1, by have := hb.2.1; omega, hb.2.2⟩)
                have HC6 := Lib.hid hcut6
                have hQ5 := box_grown hQ4 hg5 (by intro e; injection e; omega)
                have hB5 := hB4.grown hg5 (by omega) (fun k e => by injection e; omega)
                generalize compress ks0 st1 (buf.take 128) = st2 at *
                have e88 := hash_rest HCL.out hX5
                have i88 := boxed_frozen hX5 88
                clear hcut5 hcut6 hsl4 htk hg5 HC d88 g88 hX4
                go_wp2
                go_roundg k'
                case measure => omega
                case rel => exact ⟨st2, buf.drop 128, _, _, _, HCL.out, hash_setRest HCL.out hX5 _, by simpa using Rep.sl_setFar (g := w.heap.size + 1) (j := 88) HC6.out (fun b hb => hb.2.2.1), HK2, hdl, (by show _ = _; have := HMD.out; omega), box_far hQ5 (by simp only; omega) _, hB5.setCell (by simp only; omega) _, by simp; omega, by omega⟩
              · obtain ⟨k', rfl⟩ : ∃ k', gk = k' + 1 := ⟨gk - 1, by have := HN1.out; omega⟩
                have HK2 : Hid (eat fb.length st fb = eat k' (compress ks0 st1 (buf.take 128)) (buf.drop 128)) := by
                  show _ = _
                  rw [HK.out, eat, if_pos (by rw [HN1.out]; exact h128)]
                have htk := Rep.sl_take hsl4 h128
                have hcut := Rep.sl_cut hsl4 h128
                rw [show Rep.u8.size = 1 from rfl, Nat.mul_one] at hcut
                rw [if_neg hcc] at hcut; simp only [Option.map_some, Addr.add_lit] at hcut
                have hcl : (compress ks0 st1 (buf.take 128)).length = 8 := compress_len HL1.out
                have hdl : (buf.drop 128).length ≤ k' := by rw [List.length_drop]; omega
                have HC := Lib.hid hcut
                have HCL := Lib.hid hcl
                clear hcut hcl
                go_wp2_with fail
                refine Calls.mono (block_t st1 ks0 (.slice (some ⟨B1, o1, none⟩) n1 c1) al (w.heap.size + 1) (buf.take 128) (some ⟨B1, o1, none⟩) 128 c1 _ _ HL1.out ks0_len hX4 htk (Nat.le_refl _) (fun b hb => hb.2.1)) ?_
                rintro e w5 ⟨rfl, hX5, hg5⟩
                have hz5 := hg5.size
                have hcut5 := Rep.sl_grown HC.out hg5 (fun b hb => ⟨hb.2.1, fun e => hb.2.2.1 (by injection e)⟩)
                have hcut6 := Rep.sl_more (S' := fun b => w.heap.size ≤ b ∧ b < w5.heap.size ∧ b ≠ w.heap.size + 1 ∧ b ≠ w.heap.size) hcut5 (fun b hb => ⟨hb.1, by have := hb.2.1; omega, hb.2.2⟩)
                have HC6 := Lib.hid hcut6
                have hQ5 := box_grown hQ4 hg5 (by intro e; injection e; omega)
                have hB5 := hB4.grown hg5 (by omega) (fun k e => by injection e; omega)
                generalize compress ks0 st1 (buf.take 128) = st2 at *
                have e88 := hash_rest HCL.out hX5
                have i88 := boxed_frozen hX5 88
                clear hcut5 hcut6 hsl4 htk hg5 HC d88 g88 hX4
                go_wp2
                go_roundg k'
                case measure => omega
                case rel => exact ⟨st2, buf.drop 128, _, _, _, HCL.out, hash_setRest HCL.out hX5 _, by simpa using Rep.sl_setFar (g := w.heap.size + 1) (j := 88) HC6.out (fun b hb => hb.2.2.1), HK2, hdl, (by show _ = _; have := HMD.out; omega), box_far hQ5 (by simp only; omega) _, hB5.setCell (by simp only; omega) _, by simp; omega, by omega⟩
            · have hbz : buf = [] := List.eq_nil_of_length_eq_zero (by rw [HN1.out]; omega)
              have HEND : Hid (sumL st rest al = digest st1) := by
                show _ = _
                rw [HSUM.out, HK.out, hbz]
                cases gk <;> rfl
              clear hbz hsl4
              have hdl : (digest st1).length = 64 := rfl
              have HDL := Lib.hid hdl
              clear hdl
              go_wp2
              obtain ⟨O, hO⟩ : ∃ O : Nat, O = wr.heap.size := ⟨_, rfl⟩
              have hOz : w.heap.size + 2 ≤ O := by omega
              have hX5 := box_alloc hX4 (.cells (bcells (List.replicate 64 0)) 46)
              have hQ5 := box_alloc hQ4 (.cells (bcells (List.replicate 64 0)) 46)
              have hO5 : (wr.alloc (.cells (bcells (List.replicate 64 0)) 46)).heap[O]? = _ := box_at2 hO
              have hB5 := hB4.alloc (by omega) (.cells (bcells (List.replicate 64 0)) 46)
              rw [← hO]
              clear hX4 hQ4 hB4 hO
              go_loopw [86] (fun ix wq => ∃ (i : Nat), i ≤ 64 ∧ ix = .int .i64 (i : Nat) ∧ wq.heap[w.heap.size + 1]? = some (.cells (hashCells st1 ks0 (.slice A1 n1 c1) al) 76 (0, 0)) ∧ wq.heap[w.heap.size]? = some (.cells (bcells (List.replicate 64 0)) 46 (0, 0)) ∧
                wq.heap[O]? = some (.cells (bcells (padB 64 ((digest st1).take i))) 46 (0, 0)) ∧ Below w.heap.size w wq) (fun ix _ => 64 - (intOf ix).toNat)
              case atStart => exact ⟨0, by omega, rfl, hX5, hQ5, hO5, hB5⟩
              case round =>
                obtain ⟨i, hi, rfl, hX6, hQ6, hO6, hB6⟩ := hrel
                by_cases h64 : i < 64
                · have HPL : Hid ((padB 64 ((digest st1).take i)).length = 64) := padB_len (by rw [List.length_take, HDL.out]; omega)
                  have cO := bcell_at hO6 (i := i) (by rw [HPL.out]; exact h64)
                  have fO := boxed_frozen hO6 i
                  have cX := hash_at hX6 (i := i / 8) (by rw [HL1.out]; omega)
                  have HD : Hid (padB 64 ((digest st1).take (i + 1)) = (padB 64 ((digest st1).take i)).set i (byteW (sr (st1.getD (i / 8) 0) (56 - 8 * (i % 8))))) := by
                    show _ = _
                    have hl : ((digest st1).take i).length = i := by rw [List.length_take, HDL.out]; omega
                    have := padB_set (n := 64) (ps := (digest st1).take i) (p := byteW (sr (st1.getD (i / 8) 0) (56 - 8 * (i % 8)))) (by rw [hl]; exact h64)
                    rw [hl] at this
                    rw [this, List.take_add_one, digest_get h64]
                    rfl
                  generalize st1.getD (i / 8) 0 = x at *
                  generalize (padB 64 ((digest st1).take i)).getD i 0 = q at *
                  have hd1 : ((i : Int) / 8).toNat = i / 8 := by omega
                  have hd2 : (i : Int) / 8 < 8 := by omega
                  have hd3 : (0 : Int) ≤ (i : Int) / 8 := by omega
                  have hs1 : (0 : Int) ≤ 56 - 8 * ((i : Int) % 8) := by omega
                  have hs2 : 56 - 8 * ((i : Int) % 8) ≤ 63 := by omega
                  have hs3 : 8 * ((i : Int) % 8) ≤ 56 := by omega
                  have hs4 : (56 - 8 * ((i : Int) % 8)).toNat = 56 - 8 * (i % 8) := by omega
                  go_wp2
                  go_roundw
                  case rel => exact ⟨i + 1, by omega, by go_num, box_far hX6 (by simp only; omega) _, box_far hQ6 (by simp only; omega) _, by rw [HD.out]; exact bcell_set hO6 i _, hB6.setCell (by simp only; omega) _⟩
                  case measure => simp [intOf] <;> omega
                · have hie : i = 64 := by omega
                  have hpe : padB 64 ((digest st1).take i) = digest st1 := by
                    rw [hie, List.take_of_length_le (by rw [HDL.out]; exact Nat.le_refl _)]
                    unfold padB
                    rw [HDL.out]
                    simp
                  rw [hpe] at hO6
                  clear hpe hie
                  go_wp2_with (refine halt_load (ty := 46) rfl ?_)
                  refine go_onO (wpList_load_row rfl _ _ rfl O rfl _ (bcells (digest st1)) (0, 0) _ hO6 Try.underlying46 rfl (by rw [bcells_size, HDL.out]; kernel_rfl) ?_)
                  go_wp2_with (refine halt_store (ty := 46) rfl ?_)
                  refine go_onO (wpList_storeR rfl _ _ _ rfl w.heap.size (bcells (digest st1)) rfl rfl hQ6 (by rw [bcells_size, HDL.out]; kernel_rfl) (by rw [bcells_size, bcells_size, HDL.out]; rfl) (bcells_one _) ?_)
                  intro w9 hQ9 hg9 hs9
                  go_wp2
                  refine bodyPost_ret (results_cell_row rfl _ _ w.heap.size 46 (bcells (digest st1)) (0, 0) _ rfl hQ9 Try.underlying46 rfl (by rw [bcells_size, HDL.out]; kernel_rfl)) rfl ?_
                  exact ⟨by rw [HEND.out], hB6.grown hg9 (by have := hB6.size; omega) (fun k e => by injection e; omega)⟩
end Go.Proofs.Ytkgkbaicjpgljaa
