/- A new hash; a row cloned; bytes written. -/
import Derived.Test.YtkgkbaicjpgljaaSg
import Derived.Test.YtkgkbaicjpgljaaSf
namespace Go.Proofs.Ytkgkbaicjpgljaa
open Go.RowKit Go.Lib
set_option linter.unusedVariables false

theorem TU : ElemT Try.prog 25 5 (.int .u8 0) 1 1 := ⟨Try.underlying25, by kernel_rfl, rfl, by omega⟩

theorem setCells_box {g : Nat} {t : TypeId} {post : List Value} : ∀ (vs pre mid : List Value) (w : World), mid.length = vs.length → w.heap[g]? = some (.cells (pre ++ (mid ++ post)).toArray t (0, 0)) →
    (w.setCells g pre.length vs).heap[g]? = some (.cells (pre ++ (vs ++ post)).toArray t (0, 0)) ∧ w.grownBy (w.setCells g pre.length vs) (some g) ∧ (w.setCells g pre.length vs).heap.size = w.heap.size
  | [], pre, mid, w, hm, h => by
    have : mid = [] := List.eq_nil_of_length_eq_zero hm
    subst this
    exact ⟨h, World.grownBy.refl _ _, rfl⟩
  | v :: vs, pre, [], w, hm, h => by cases hm
  | v :: vs, pre, m :: mid, w, hm, h => by
    have h1 : (w.setCell ⟨g, pre.length, none⟩ v).heap[g]? = some (.cells ((pre ++ [v]) ++ (mid ++ post)).toArray t (0, 0)) := by
      rw [box_set h]
      congr 2
      apply Array.ext'
      simp
    have := setCells_box vs (pre ++ [v]) mid _ (by simpa using hm) h1
    rw [List.length_append, List.length_singleton] at this
    rw [World.setCells]
    obtain ⟨a, b, c⟩ := this
    refine ⟨by rw [a]; simp, grownBy_trans (grownBy_set (World.grownBy.refl w _) _) b, by rw [c]; simp⟩

section
variable {P : Program} {w : World} {ops : Array Oper} {rest : List Oper} {o : Oper} {a : Act} {Q : Exit → Act → World → Prop}
/-- A whole row written into the midst of a block. -/
theorem wpList_storeM (hgd : o.guard = none) (ty : TypeId) (x y : Operand) (ho : o.op = .store ty x y) (b f : Nat) (cells : Array Value) (hx : a.eval x = .pointer (some ⟨b, f, none⟩)) (hy : a.eval y = .agg cells) {t : TypeId} {pre mid post : List Value}
    (hg : w.heap[b]? = some (.cells (pre ++ (mid ++ post)).toArray t (0, 0))) (hf : pre.length = f) (hm : mid.length = cells.size) (hi : (P.info? ty).map (·.size) = some cells.size) (h1 : cells.all (·.oneCell') = true)
    (h : ∀ w' : World, w'.heap[b]? = some (.cells (pre ++ (cells.toList ++ post)).toArray t (0, 0)) → w.grownBy w' (some b) → w'.heap.size = w.heap.size → wpList P ops Q rest (a.put o.dst undef) w') : wpList P ops Q (o :: rest) a w := by
  subst hf
  obtain ⟨h2, h3, h4⟩ := setCells_box cells.toList pre mid w (by simpa using hm) hg
  refine wpList_store_mid hgd ty x y ho b pre.length cells hx hy (fun j hj => ⟨?_, boxed_frozen hg _⟩) hi h1 (h _ h2 h3 h4)
  have hj' : pre.length + j < (pre ++ (mid ++ post)).length := by simp only [List.length_append]; omega
  rw [boxed hg (pre.length + j) _ (List.getElem?_eq_getElem hj')]
  rfl
end

/-- The tables, as words. -/
def st0 : List UInt64 := firstL.map UInt64.ofNat
def ks0 : List UInt64 := constL.map UInt64.ofNat
theorem unat_st0 : unat st0 = rootsL 2 8 := by
  rw [first_roots]
  decide +kernel
theorem unat_ks0 : unat ks0 = rootsL 3 80 := by
  rw [const_roots]
  decide +kernel
theorem st0_len : st0.length = 8 := rfl
theorem ks0_len : ks0.length = 80 := rfl
theorem wcells_list (xs : List UInt64) : (wcells (unat xs)).toList = xs.map (fun x => Value.int .u64 (x.toNat : Int)) := by
  unfold wcells unat
  rw [List.map_map]
  rfl

/-- A hash in memory: its words, what waits, how much there was. -/
def HashAt (w : World) (lo g : Nat) (st : List UInt64) (rest : List UInt8) (al : Nat) : Prop :=
  ∃ r, w.heap[g]? = some (.cells (hashCells st ks0 r al) 76 (0, 0)) ∧ Rep.u8.own 5 w lo (fun _ => False) r rest
def NewPost (w : World) (e : Ending) (w' : World) : Prop := e = .returned (.pointer (some ⟨w.heap.size, 0, none⟩)) ∧ HashAt w' w.heap.size w.heap.size st0 [] 0 ∧ Below w.heap.size w w'

def zeroHash : Array Value := (([] : List Value) ++ (List.replicate 8 (Value.int .u64 0) ++ (List.replicate 80 (Value.int .u64 0) ++ [Value.slice none 0 0, Value.int .u64 0]))).toArray
set_option maxHeartbeats 1000000 in
set_option maxRecDepth 100000 in
theorem new_c (w : World) : Calls Try.prog 23 #[] w (NewPost w) := by
  have z76 := (zero_of_info (P := Try.prog) (t := 76) (v := .agg zeroHash) (n := 90) (by kernel_rfl)).1
  go_enter Try.func23, Try.ntmps23
  go_wp2_with fail
  refine Calls.mono (tables_c _) ?_
  rintro e w1 ⟨rfl, hB1⟩
  have hb := box_below (box_new w _ 76) hB1 (by simp)
  have hb' : w1.heap[w.heap.size]? = some (.cells (([] : List Value) ++ (List.replicate 8 (Value.int .u64 0) ++ (List.replicate 80 (Value.int .u64 0) ++ [Value.slice none 0 0, Value.int .u64 0]))).toArray 76 (0, 0)) := hb
  have hB : Below w.heap.size w w1 := ((Below.refl _ _).alloc (Nat.le_refl _) _).trans (hB1.mono (by simp))
  clear hb hB1
  go_wp2_with (refine halt_store (ty := 68) rfl ?_)
  refine go_onO (wpList_storeM rfl _ _ _ rfl w.heap.size 0 (wcells (rootsL 2 8)) rfl rfl hb' rfl (by rw [wcells_size, rootsL_len (by omega)]; rfl) (by rw [wcells_size, rootsL_len (by omega)]; kernel_rfl) (wcells_one _) ?_)
  intro w2 hb2 hg2 hs2
  have hB2 := hB.grown hg2 hB.size (fun k e => by injection e; omega)
  rw [← unat_st0, wcells_list] at hb2
  have hb2' : w2.heap[w.heap.size]? = some (.cells (st0.map (fun x => Value.int .u64 (x.toNat : Int)) ++ (List.replicate 80 (Value.int .u64 0) ++ [Value.slice none 0 0, Value.int .u64 0])).toArray 76 (0, 0)) := hb2
  clear hb2 hg2 hs2 hb' hB
  go_wp2_with (refine halt_store (ty := 70) rfl ?_)
  refine go_onO (wpList_storeM rfl _ _ _ rfl w.heap.size 8 (wcells (rootsL 3 80)) rfl rfl hb2' (by rw [List.length_map, st0_len]) (by rw [wcells_size, rootsL_len (by omega), List.length_replicate]) (by rw [wcells_size, rootsL_len (by omega)]; kernel_rfl) (wcells_one _) ?_)
  intro w3 hb3 hg3 hs3
  have hB3 := hB2.grown hg3 hB2.size (fun k e => by injection e; omega)
  rw [← unat_ks0, wcells_list] at hb3
  go_wp2
  go_ret
  refine ⟨rfl, ⟨.slice none 0 0, ?_, Rep.own_nil⟩, hB3⟩
  rw [hb3]
  congr 2

def OwnPost (w : World) (xs : List UInt8) (e : Ending) (w' : World) : Prop := ∃ v, e = .returned v ∧ Rep.u8.own 5 w' w.heap.size (fun _ => False) v xs ∧ Below w.heap.size w w'
set_option maxHeartbeats 1000000 in
theorem clone_c (xs : List UInt8) (A : Option Addr) (n c : Nat) (S : Nat → Prop) (w : World) (hs : Rep.u8.sl w S A n c xs) (hn : n ≤ 1000000000) (hS : ∀ b, S b → b < w.heap.size) :
    Calls Try.prog 40 #[.slice A n c] w (OwnPost w xs) := by
  have hl := hs.1
  have HN := Lib.hid hl
  clear hl
  have heq := fun (v : World) => Lib.run_eql_slice_nil (P := Try.prog) v 25 5 A n c 0 0 Try.underlying25
  cases A with
  | none =>
    have hz : n = 0 := by
      rcases Nat.eq_zero_or_pos n with h | h
      · exact h
      · obtain ⟨b, o, e, _⟩ := hs.2.2.2 h
        cases e
    have hx : xs = [] := List.eq_nil_of_length_eq_zero (by rw [HN.out, hz])
    have HX := Lib.hid hx
    clear hx hz hs
    go_enter Try.func40, Try.ntmps40
    go_wp2
    go_ret
    exact ⟨_, rfl, by rw [HX.out]; exact Rep.own_nil, Below.refl _ _⟩
  | some ad =>
    go_enter Try.func40, Try.ntmps40
    go_wp2_with (at_builtin; refine halt ?_)
    refine go_on (wpList_appF rfl flat_u8 TU _ _ rfl (by rfl) (own_lit (base := w.heap.size) (S := fun _ => False) _ [] rfl rfl (Nat.le_refl _) (by decide) rfl (fun _ h => h.elim) (fun i x h => by simp at h)) (by rfl) (Rep.sl_below hs (Below.alloc (Below.refl _ _) (Nat.le_refl _) _) hS) (by first | (with_reducible rfl) | omega | (simp; done) | (simp; omega) | (intro b hb; (try dsimp only at hb); simp; omega) | (intro b hb; (try dsimp only at hb); simp [Value.ownBlock]; omega) | (intro b hb; exact hb.elim) | (go_grown; done)) (by first | (with_reducible rfl) | omega | (simp; done) | (simp; omega) | (intro b hb; (try dsimp only at hb); simp; omega) | (intro b hb; (try dsimp only at hb); simp [Value.ownBlock]; omega) | (intro b hb; exact hb.elim) | (go_grown; done)) (by first | (with_reducible rfl) | omega | (simp; done) | (simp; omega) | (intro b hb; (try dsimp only at hb); simp; omega) | (intro b hb; (try dsimp only at hb); simp [Value.ownBlock]; omega) | (intro b hb; exact hb.elim) | (go_grown; done)) (fun _ h => h.elim) ?_)
    intro v2 w2 ho2 hg2 _
    rw [List.nil_append] at ho2
    have hB2 := ((Below.refl w.heap.size w).alloc (Nat.le_refl _) (.cells #[] 5)).grown hg2 (by simp) (fun k e => by simp [Value.ownBlock] at e; omega)
    go_wp2
    go_ret
    exact ⟨_, rfl, ho2, hB2⟩
end Go.Proofs.Ytkgkbaicjpgljaa
