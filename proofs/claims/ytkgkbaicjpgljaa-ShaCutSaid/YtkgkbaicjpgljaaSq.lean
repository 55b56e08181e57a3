/- The laws' own helpers: too great, awake. -/
import Derived.Test.YtkgkbaicjpgljaaSo
import Derived.Test.YtkgkbaicjpgljaaSp
import Derived.Deep.RegionWith
import Derived.Lib.SmallJoins
namespace Go.Proofs.Ytkgkbaicjpgljaa
open Go.RowKit Go.Lib
set_option linter.unusedVariables false

theorem row_slices {w : World} {h : Nat} {t : TypeId} {vs : List Value} {xs : List (List UInt8)} (hl : xs.length = vs.length) (hm : vs.length ≤ 9223372036854775807) (hb : w.heap[h]? = some (.cells vs.toArray t (0, 0)))
    (hr : ∀ (i : Nat) (x : List UInt8), xs[i]? = some x → ∃ A n c, vs[i]? = some (Value.slice A n c) ∧ Rep.u8.sl w (fun b => b < w.heap.size) A n c x) : Rep.u8.slice.sl w (fun b => b < w.heap.size) (some ⟨h, 0, none⟩) vs.length vs.length xs := by
  refine ⟨hl, Nat.le_refl _, hm, fun hn => ⟨h, 0, rfl, (Array.getElem?_eq_some_iff.1 hb).1, fun i x hx => ?_⟩⟩
  obtain ⟨A, n, c, hv, hsl⟩ := hr i x hx
  refine ⟨[.slice A n c], ⟨A, n, c, rfl, hsl⟩, fun j u hu => ?_⟩
  cases j with
  | zero =>
    simp at hu
    subst hu
    rw [show (Rep.u8.slice).size = 1 from rfl, Nat.mul_one, Nat.add_zero, Nat.zero_add]
    refine boxed hb i _ ?_
    simpa using hv
  | succ j => simp at hu

theorem sl_bmark {w : World} {g : Nat} {xs : List UInt8} {t : TypeId} {fr : Nat × Nat} (h : w.heap[g]? = some (.cells (bcells xs) t fr)) (hm : xs.length ≤ 9223372036854775807) : Rep.u8.sl w (fun b => b = g) (some ⟨g, 0, none⟩) xs.length xs.length xs := by
  refine ⟨rfl, Nat.le_refl _, hm, fun hn => ⟨g, 0, rfl, rfl, fun i x hx => ⟨[.int .u8 (x.toNat : Int)], rfl, fun j u hu => ?_⟩⟩⟩
  cases j with
  | zero =>
    simp at hu
    subst hu
    rw [show Rep.u8.size = 1 from rfl, Nat.mul_one, Nat.add_zero, Nat.zero_add, Go.Joins.cell_of_block h]
    simp [bcells, hx]
  | succ j => simp at hu

theorem box_under (w : World) (o1 o2 : Obj) : ((w.alloc o1).alloc o2).heap[w.heap.size]? = some o1 := box_alloc (heap_alloc_new w o1) o2

def GreatPost (l : List (List UInt8)) (w : World) (e : Ending) (w' : World) : Prop := ∃ r, e = .returned (.bool r) ∧ w = w' ∧ (r = false → l.length ≤ 100 ∧ l.flatten.length ≤ 2000)

set_option maxHeartbeats 1000000 in
set_option maxRecDepth 100000 in
theorem sgreat_c (l : List (List UInt8)) (A : Option Addr) (n c : Nat) (w : World) (hs : Rep.u8.slice.sl w (fun b => b < w.heap.size) A n c l) :
    Calls Try.prog 18 #[.slice A n c] w (GreatPost l w) := by
  have HN := Lib.hid hs.1
  have hnc := hs.2.1
  have hcm := hs.2.2.1
  go_enter Try.func18, Try.ntmps18
  go_wp2
  go_loopw [3, 4] (fun sx ix wr => ∃ (k s : Nat), k ≤ n ∧ ix = .int .i64 (k : Nat) ∧ sx = .int .i64 (s : Nat) ∧ s ≤ 5000 ∧ Hid (s ≤ 2000 → s = (l.take k).flatten.length) ∧ w = wr) (fun _ ix _ => n - (intOf ix).toNat)
  case atStart => exact ⟨0, 0, by omega, rfl, rfl, by omega, fun _ => by simp, rfl⟩
  case round =>
    obtain ⟨k, s, hk, rfl, rfl, hs5, HSUM, rfl⟩ := hrel
    by_cases hs2 : s ≤ 2000
    · by_cases hlt : k < n
      · obtain ⟨b', o', x, es, rfl, hb', hx, ⟨A2, n2, c2, rfl, hsx⟩, hcx⟩ := Rep.sl_at hs hlt
        have hcx0 := hcx 0 _ rfl
        rw [show (Rep.u8.slice).size = 1 from rfl, Nat.mul_one, Nat.add_zero] at hcx0
        have HF : Hid ((l.take (k + 1)).flatten.length = (l.take k).flatten.length + n2) := by
          show _ = _
          rw [List.take_add_one, hx, List.flatten_append, List.length_append]
          simp [hsx.1]
        have hn2 := hsx.2.1
        have hc2 := hsx.2.2.1
        have W1 : ∀ m : Nat, m ≤ 3000 → IntKind.i64.wrap ((s : Int) + (m : Int)) = (s : Int) + (m : Int) := fun m hm => IntWalk.i64_in _ (by omega)
        clear hcx hx hsx
        by_cases h3 : n2 ≤ 3000
        · have hmin : min (n2 : Int) 3000 = (n2 : Int) := by omega
          have hW := W1 n2 h3
          go_wp2
          go_roundw
          case rel => exact ⟨k + 1, s + n2, by omega, by go_num, by go_num, by omega, fun h => by rw [HF.out, ← HSUM.out hs2], by trivial⟩
          case measure => simp [intOf] <;> omega
        · have hmin : min (n2 : Int) 3000 = 3000 := by omega
          have hW : IntKind.i64.wrap ((s : Int) + 3000) = (s : Int) + 3000 := IntWalk.i64_in _ (by omega)
          go_wp2
          go_roundw
          case rel => exact ⟨k + 1, s + 3000, by omega, by go_num, by go_num, by omega, fun h => by omega, by trivial⟩
          case measure => simp [intOf] <;> omega
      · have hke : l.take k = l := List.take_of_length_le (by have := HN.out; omega)
        have HSE : Hid (s = l.flatten.length) := by have := HSUM.out hs2; rw [hke] at this; exact this
        clear hke
        have hd : decide ((2000 : Int) < (s : Int)) = false := decide_eq_false (by omega)
        by_cases h100 : n ≤ 100
        · have hd2 : decide ((100 : Int) < (n : Int)) = false := decide_eq_false (by omega)
          go_wp2
          go_ret
          exact ⟨_, rfl, rfl, fun _ => ⟨by rw [HN.out]; exact h100, by rw [← HSE.out]; exact hs2⟩⟩
        · have hd2 : decide ((100 : Int) < (n : Int)) = true := decide_eq_true (by omega)
          go_wp2
          go_ret
          exact ⟨_, rfl, rfl, fun h => by cases h⟩
    · have hd : decide ((2000 : Int) < (s : Int)) = true := decide_eq_true (by omega)
      have hd2 : decide ((s : Int) ≤ 2000) = false := decide_eq_false (by omega)
      go_wp2
      all_goals
        go_ret
        exact ⟨_, rfl, rfl, fun h => by cases h⟩

set_option maxHeartbeats 1000000 in
set_option maxRecDepth 100000 in
theorem sawake_c (w : World) : Calls Try.prog 19 #[] w fun e w' => e = .returned (.bool true) ∧ Below w.heap.size w w' := by
  have hcv := Go.Joins.run_convert_bytes_const_at (P := Try.prog) w 25 5 #[.int .u8 97, .int .u8 98, .int .u8 99] 3 3 w.heap.size rfl Try.underlying25 Try.underlying5
  go_enter Try.func19, Try.ntmps19
  go_wp2_with fail
  clear hcv
  have h1 : ((w.alloc (.cells (bcells [97, 98, 99]) 5 (3, 4))).alloc (.cells [Value.slice (some ⟨w.heap.size, 0, none⟩) 3 3].toArray 25)).heap[w.heap.size]? = some (.cells (bcells [97, 98, 99]) 5 (3, 4)) := box_under _ _ _
  have h2 : ((w.alloc (.cells (bcells [97, 98, 99]) 5 (3, 4))).alloc (.cells [Value.slice (some ⟨w.heap.size, 0, none⟩) 3 3].toArray 25)).heap[w.heap.size + 1]? = some (.cells [Value.slice (some ⟨w.heap.size, 0, none⟩) 3 3].toArray 25 (0, 0)) := box_at2 (by simp)
  refine Calls.mono (of_c [[97, 98, 99]] _ 1 1 _ (row_slices (vs := [Value.slice (some ⟨w.heap.size, 0, none⟩) 3 3]) rfl (by show 1 ≤ 9223372036854775807; omega) h2 ?_) (by decide)) ?_
  · intro i x hx
    obtain rfl : i = 0 := by have := (List.getElem?_eq_some_iff.1 hx).1; simp at this; omega
    obtain rfl : [97, 98, 99] = x := by injection hx
    exact ⟨_, _, _, rfl, Rep.sl_more (sl_bmark h1 (by decide)) (fun b hb => by rw [hb]; simp; omega)⟩
  rintro e w1 ⟨rfl, hB1⟩
  rw [show [([97, 98, 99] : List UInt8)].flatten = [97, 98, 99] from rfl]
  have hB1' : Below w.heap.size w w1 := (((Below.refl _ _).alloc (Nat.le_refl _) _).alloc (by simp) _).trans (hB1.mono (by simp; omega))
  clear hB1 h1 h2
  go_wp2_with (refine halt_store (ty := 46) rfl ?_)
  refine go_onO (wpList_storeR rfl _ _ _ rfl w1.heap.size (bcells (shaL [97, 98, 99])) rfl rfl (box_at2 rfl) (by rw [bcells_size, shaL_len]; kernel_rfl) (by rw [bcells_size, shaL_len]; rfl) (bcells_one _) ?_)
  intro w2 hq2 hg2 hs2
  have hB2 := (hB1'.alloc hB1'.size _).grown hg2 (by simp; have := hB1'.size; omega) (fun k e => by injection e; have := hB1'.size; omega)
  have c0 := bcell_at hq2 (i := 0) (by rw [shaL_len]; decide)
  have c1 := bcell_at hq2 (i := 1) (by rw [shaL_len]; decide)
  have c2 := bcell_at hq2 (i := 2) (by rw [shaL_len]; decide)
  have c3 := bcell_at hq2 (i := 3) (by rw [shaL_len]; decide)
  rw [abc_0] at c0
  rw [abc_1] at c1
  rw [abc_2] at c2
  rw [abc_3] at c3
  rw [show ((221 : UInt8).toNat : Int) = 221 from rfl] at c0
  rw [show ((175 : UInt8).toNat : Int) = 175 from rfl] at c1
  rw [show ((53 : UInt8).toNat : Int) = 53 from rfl] at c2
  rw [show ((161 : UInt8).toNat : Int) = 161 from rfl] at c3
  clear hq2 hg2 hs2 hB1'
  go_wp2
  go_ret
  exact ⟨rfl, hB2⟩
end Go.Proofs.Ytkgkbaicjpgljaa
