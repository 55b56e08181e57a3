/- A block taken, as the program goes: plain, and what lies in memory. -/
import Derived.Test.YtkgkbaicjpgljaaSe
import Derived.Deep.MidRow
namespace Go.Proofs.Ytkgkbaicjpgljaa
open Go.RowKit Go.Lib
set_option linter.unusedVariables false

/-- Rows of words. -/
def unat (xs : List UInt64) : List Nat := xs.map (·.toNat)
theorem unat_len (xs : List UInt64) : (unat xs).length = xs.length := List.length_map _
theorem unat_get (xs : List UInt64) (i : Nat) : (unat xs).getD i 0 = (xs.getD i 0).toNat := by
  unfold unat
  simp only [List.getD_eq_getElem?_getD, List.getElem?_map]
  cases xs[i]? <;> rfl
theorem unat_set (xs : List UInt64) (i : Nat) (x : UInt64) : (unat xs).set i x.toNat = unat (xs.set i x) := by
  unfold unat
  rw [List.map_set]
theorem ucell_at {w : World} {g : Nat} {xs : List UInt64} {t : TypeId} (h : w.heap[g]? = some (.cells (wcells (unat xs)) t (0, 0))) {i : Nat} (hi : i < xs.length) : w.cell? ⟨g, i, none⟩ = some (.int .u64 ((xs.getD i 0).toNat : Int)) := by
  rw [wcell_at h (by rw [unat_len]; exact hi), unat_get]
theorem ucell_set {w : World} {g : Nat} {xs : List UInt64} {t : TypeId} (h : w.heap[g]? = some (.cells (wcells (unat xs)) t (0, 0))) (i : Nat) (x : UInt64) : (w.setCell ⟨g, i, none⟩ (.int .u64 (x.toNat : Int))).heap[g]? = some (.cells (wcells (unat (xs.set i x))) t (0, 0)) := by
  rw [wcell_set h, unat_set]

def zerosU (n : Nat) : List UInt64 := List.replicate n 0
theorem zerosU_nat (n : Nat) : unat (zerosU n) = zeros n := by simp [unat, zerosU, zeros]
def padU (n : Nat) (ps : List UInt64) : List UInt64 := ps ++ zerosU (n - ps.length)
theorem padU_len {n : Nat} {ps : List UInt64} (h : ps.length ≤ n) : (padU n ps).length = n := by
  unfold padU zerosU
  rw [List.length_append, List.length_replicate]
  omega
theorem padU_get {n i : Nat} {ps : List UInt64} (h : i < ps.length) : (padU n ps).getD i 0 = ps.getD i 0 := by
  unfold padU
  simp [List.getD, List.getElem?_append_left h]
theorem padU_set {n : Nat} {p : UInt64} {ps : List UInt64} (h : ps.length < n) : (padU n ps).set ps.length p = padU n (ps ++ [p]) := by
  unfold padU zerosU
  rw [List.set_append_right _ _ (Nat.le_refl _), Nat.sub_self, List.length_append, List.length_singleton, List.append_assoc]
  congr 1
  obtain ⟨k, hk⟩ : ∃ k, n - ps.length = k + 1 := ⟨n - ps.length - 1, by omega⟩
  rw [hk, List.replicate_succ, List.set_cons_zero, show n - (ps.length + 1) = k by omega]
  rfl
theorem padU_nil (n : Nat) : padU n [] = zerosU n := by simp [padU]
theorem padU_full {ps : List UInt64} {n : Nat} (h : ps.length = n) : padU n ps = ps := by simp [padU, zerosU, h]

/-- The words of a block, and those behind them. -/
def ob (y : UInt8) : UInt64 := UInt64.ofNat y.toNat
theorem wrap_ob (y : UInt8) : IntKind.u64.wrap (y.toNat : Int) = ((ob y).toNat : Int) := wrap_word _
def word8 (x : UInt64) (bs : List UInt8) : UInt64 := bs.foldl (fun x c => wo (sl x 8) (ob c)) x
def small0 (x : UInt64) : UInt64 := wx (wx (rotr x 1) (rotr x 8)) (sr x 7)
def small1 (x : UInt64) : UInt64 := wx (wx (rotr x 19) (rotr x 61)) (sr x 6)
def big0 (x : UInt64) : UInt64 := wx (wx (rotr x 28) (rotr x 34)) (rotr x 39)
def big1 (x : UInt64) : UInt64 := wx (wx (rotr x 14) (rotr x 18)) (rotr x 41)
def nextW (ws : List UInt64) (n : Nat) : UInt64 :=
  wa (wa (wa (ws.getD (n - 16) 0) (small0 (ws.getD (n - 15) 0))) (ws.getD (n - 7) 0)) (small1 (ws.getD (n - 2) 0))
def wordsOf (bs : List UInt8) : Nat → List UInt64
  | 0 => []
  | n + 1 => wordsOf bs n ++ [if n < 16 then word8 0 ((bs.drop (8 * n)).take 8) else nextW (wordsOf bs n) n]
theorem wordsOf_len (bs : List UInt8) : ∀ n, (wordsOf bs n).length = n
  | 0 => rfl
  | n + 1 => by rw [wordsOf, List.length_append, wordsOf_len bs n]; rfl
def chooseW (e f g : UInt64) : UInt64 := wo (wn e f) (wn (wc e) g)
def majorW (a b c : UInt64) : UInt64 := wo (wo (wn a b) (wn a c)) (wn b c)
def roundW (s : List UInt64) (k w : UInt64) : List UInt64 :=
  match s with
  | [a, b, c, d, e, f, g, h] =>
    let t := wa (wa (wa (wa h (big1 e)) (chooseW e f g)) k) w
    [wa t (wa (big0 a) (majorW a b c)), a, b, c, wa d t, e, f, g]
  | s => s
def roundsW (ks ws : List UInt64) (s : List UInt64) : Nat → List UInt64
  | 0 => s
  | n + 1 => roundW (roundsW ks ws s n) (ks.getD n 0) (ws.getD n 0)
theorem roundW_len {s : List UInt64} (h : s.length = 8) (k w : UInt64) : (roundW s k w).length = 8 := by
  match s, h with
  | [a, b, c, d, e, f, g, i], _ => rfl
theorem roundsW_len {ks ws s : List UInt64} (h : s.length = 8) : ∀ n, (roundsW ks ws s n).length = 8
  | 0 => h
  | n + 1 => roundW_len (roundsW_len h n) _ _
def addsW (s t : List UInt64) : List UInt64 := List.zipWith wa s t
def compress (ks st : List UInt64) (bs : List UInt8) : List UInt64 := addsW st (roundsW ks (wordsOf bs 80) st 80)

theorem padU_set0 {n i : Nat} {ps : List UInt64} (h : ps.length = i) (hi : i < n) : (padU n ps).set i 0 = padU n ps := by
  subst h
  unfold padU zerosU
  rw [List.set_append_right _ _ (Nat.le_refl _), Nat.sub_self]
  obtain ⟨k, hk⟩ : ∃ k, n - ps.length = k + 1 := ⟨n - ps.length - 1, by omega⟩
  rw [hk, List.replicate_succ, List.set_cons_zero]
theorem set_getD {xs : List UInt64} {i : Nat} (h : i < xs.length) (x : UInt64) : (xs.set i x).getD i 0 = x := by
  simp [List.getD, h]
theorem word8_snoc (x : UInt64) (bs : List UInt8) (c : UInt8) : word8 x (bs ++ [c]) = wo (sl (word8 x bs) 8) (ob c) := by
  unfold word8
  rw [List.foldl_append]
  rfl

theorem byte_cells {b : List UInt8} {A : Option Addr} {n c : Nat} {w : World} {S : Nat → Prop} (hs : Rep.u8.sl w S A n c b) (hn : 0 < n) :
    ∃ B o, A = some ⟨B, o, none⟩ ∧ S B ∧ ∀ i, i < n → w.cell? ⟨B, o + i, none⟩ = some (.int .u8 ((b.getD i 0).toNat : Int)) := by
  obtain ⟨B, o, hA, hB, hr⟩ := hs.2.2.2 hn
  refine ⟨B, o, hA, hB, fun i hi => ?_⟩
  have hil : i < b.length := by have := hs.1; omega
  obtain ⟨es, he, hc⟩ := hr i b[i] (List.getElem?_eq_getElem hil)
  obtain rfl : es = [.int .u8 (b[i].toNat : Int)] := he
  have := hc 0 _ rfl
  rw [show Rep.u8.size = 1 from rfl, Nat.mul_one, Nat.add_zero] at this
  rw [this]
  simp [List.getD, hil]

theorem round_cells (a b c d e f g h k w : UInt64) : wcells (unat (roundW [a, b, c, d, e, f, g, h] k w)) =
    #[.int .u64 ((wa (wa (wa (wa (wa h (wx (wx (rotr e 14) (rotr e 18)) (rotr e 41))) (wo (wn e f) (wn (wc e) g))) k) w) (wa (wx (wx (rotr a 28) (rotr a 34)) (rotr a 39)) (wo (wo (wn a b) (wn a c)) (wn b c)))).toNat : Int),
      .int .u64 (a.toNat : Int), .int .u64 (b.toNat : Int), .int .u64 (c.toNat : Int),
      .int .u64 ((wa d (wa (wa (wa (wa h (wx (wx (rotr e 14) (rotr e 18)) (rotr e 41))) (wo (wn e f) (wn (wc e) g))) k) w)).toNat : Int), .int .u64 (e.toNat : Int), .int .u64 (f.toNat : Int), .int .u64 (g.toNat : Int)] := rfl

def mixL (a st : List UInt64) (m : Nat) : List UInt64 := a.take m ++ st.drop m
theorem mixL_len {a st : List UInt64} {m : Nat} (h : a.length = st.length) (hm : m ≤ st.length) : (mixL a st m).length = st.length := by
  unfold mixL
  rw [List.length_append, List.length_take, List.length_drop]
  omega
theorem mixL_get {a st : List UInt64} {m : Nat} (h : a.length = st.length) (hm : m < st.length) : (mixL a st m).getD m 0 = st.getD m 0 := by
  unfold mixL
  have hl : (a.take m).length = m := by rw [List.length_take]; omega
  simp only [List.getD_eq_getElem?_getD]
  rw [List.getElem?_append_right (by omega), hl, Nat.sub_self, List.getElem?_drop, Nat.add_zero]
theorem mixL_set {a st : List UInt64} {m : Nat} (h : a.length = st.length) (hm : m < st.length) : (mixL a st m).set m (a.getD m 0) = mixL a st (m + 1) := by
  unfold mixL
  have hl : (a.take m).length = m := by rw [List.length_take]; omega
  rw [List.set_append_right _ _ (by omega), hl, Nat.sub_self, List.take_add_one, show a[m]? = some (a.getD m 0) by simp [List.getD, show m < a.length by omega]]
  rw [List.append_assoc]
  congr 1
  rw [List.drop_eq_getElem_cons hm]
  rfl
theorem addsW_len {s t : List UInt64} (h : s.length = t.length) : (addsW s t).length = s.length := by
  unfold addsW
  rw [List.length_zipWith]
  omega
theorem addsW_get {s t : List UInt64} {m : Nat} (hs : m < s.length) (ht : m < t.length) : (addsW s t).getD m 0 = wa (s.getD m 0) (t.getD m 0) := by
  unfold addsW
  simp [List.getD, List.getElem?_zipWith, hs, ht]

/-- What a hash is in memory. -/
def hashCells (st ks : List UInt64) (r : Value) (a : Nat) : Array Value := ((st ++ ks).map (fun x => Value.int .u64 (x.toNat : Int)) ++ [r, .int .u64 (a : Int)]).toArray

theorem quiet_later {P : Program} {f : FuncId} {args : Array Value} {w : World} {k n : Nat} {v : Value} (h : Calls P f args (w.drewN (k + n)) fun e w' => e = .returned v ∧ w' = w.drewN (k + n)) :
    Calls P f args (w.drewN (k + n)) fun e w'' => e = .returned v ∧ ∃ m, w'' = w.drewN (k + m) := h.mono fun _ _ ⟨he, hm⟩ => ⟨he, n, hm⟩
theorem turn_any (x : UInt64) (n : Int) (hn : n ∈ [(1 : Int), 8, 14, 18, 19, 28, 34, 39, 41, 61]) (w : World) :
    Calls Try.prog 48 #[.int .u64 (x.toNat : Int), .int .i64 n] w fun e w' => e = .returned (.int .u64 ((rotr x n.toNat).toNat : Int)) ∧ w' = w := by
  simp only [List.mem_cons, List.not_mem_nil, or_false] at hn
  rcases hn with rfl | rfl | rfl | rfl | rfl | rfl | rfl | rfl | rfl | rfl
  · exact (turn_1 x w).mono fun _ _ ⟨a, b⟩ => ⟨a, b.symm⟩
  · exact (turn_8 x w).mono fun _ _ ⟨a, b⟩ => ⟨a, b.symm⟩
  · exact (turn_14 x w).mono fun _ _ ⟨a, b⟩ => ⟨a, b.symm⟩
  · exact (turn_18 x w).mono fun _ _ ⟨a, b⟩ => ⟨a, b.symm⟩
  · exact (turn_19 x w).mono fun _ _ ⟨a, b⟩ => ⟨a, b.symm⟩
  · exact (turn_28 x w).mono fun _ _ ⟨a, b⟩ => ⟨a, b.symm⟩
  · exact (turn_34 x w).mono fun _ _ ⟨a, b⟩ => ⟨a, b.symm⟩
  · exact (turn_39 x w).mono fun _ _ ⟨a, b⟩ => ⟨a, b.symm⟩
  · exact (turn_41 x w).mono fun _ _ ⟨a, b⟩ => ⟨a, b.symm⟩
  · exact (turn_61 x w).mono fun _ _ ⟨a, b⟩ => ⟨a, b.symm⟩
theorem hash_nat (st ks : List UInt64) (r : Value) (a : Nat) : hashCells st ks r a = (((unat st).map wcell ++ (unat ks).map wcell) ++ [r, .int .u64 (a : Int)]).toArray := by
  unfold hashCells unat
  rw [List.map_append, List.map_map, List.map_map]
  rfl
theorem hash_state {w : World} {g : Nat} {st ks : List UInt64} {r : Value} {a : Nat} {t : TypeId} (h : w.heap[g]? = some (.cells (hashCells st ks r a) t (0, 0))) : w.rangeAt g 0 (wcells (unat st)).toList := by
  intro j v hv
  rw [hash_nat] at h
  refine boxed h (0 + j) v ?_
  rw [Nat.zero_add]
  have hj : j < ((unat st).map wcell).length := (List.getElem?_eq_some_iff.1 hv).1
  simp only [wcells] at hv
  rw [List.getElem?_append_left (by rw [List.length_append]; omega), List.getElem?_append_left hj]
  exact hv
theorem hash_consts {w : World} {g : Nat} {st ks : List UInt64} {r : Value} {a : Nat} {t : TypeId} (hst : st.length = 8) (h : w.heap[g]? = some (.cells (hashCells st ks r a) t (0, 0))) : w.rangeAt g 8 (wcells (unat ks)).toList := by
  intro j v hv
  rw [hash_nat] at h
  refine boxed h (8 + j) v ?_
  have hj : j < ((unat ks).map wcell).length := (List.getElem?_eq_some_iff.1 hv).1
  have hl : ((unat st).map wcell).length = 8 := by rw [List.length_map, unat_len, hst]
  simp only [wcells] at hv
  rw [List.getElem?_append_left (by rw [List.length_append]; omega), List.getElem?_append_right (by omega), hl, Nat.add_sub_cancel_left]
  exact hv
theorem hash_at {w : World} {g : Nat} {st ks : List UInt64} {r : Value} {a : Nat} {t : TypeId} (h : w.heap[g]? = some (.cells (hashCells st ks r a) t (0, 0))) {i : Nat} (hi : i < st.length) : w.cell? ⟨g, i, none⟩ = some (.int .u64 ((st.getD i 0).toNat : Int)) := by
  have := hash_state h i (.int .u64 ((st.getD i 0).toNat : Int)) (by simp [wcells, wcell, unat, hi])
  rwa [Nat.zero_add] at this
theorem hash_set {w : World} {g : Nat} {st ks : List UInt64} {r : Value} {a : Nat} {t : TypeId} (h : w.heap[g]? = some (.cells (hashCells st ks r a) t (0, 0))) {i : Nat} (hi : i < st.length) (x : UInt64) :
    (w.setCell ⟨g, i, none⟩ (.int .u64 (x.toNat : Int))).heap[g]? = some (.cells (hashCells (st.set i x) ks r a) t (0, 0)) := by
  rw [box_set h]
  congr 2
  apply Array.ext'
  unfold hashCells
  simp only [Array.toList_setIfInBounds]
  rw [List.set_append_left _ _ (by simp; omega), ← List.map_set, List.set_append_left _ _ hi]

section
variable {P : Program} {w : World} {ops : Array Oper} {rest : List Oper} {o : Oper} {a : Act} {Q : Exit → Act → World → Prop}
/-- A whole row written. -/
theorem wpList_storeR (hgd : o.guard = none) (ty : TypeId) (x y : Operand) (ho : o.op = .store ty x y) (g : Nat) (cells : Array Value) (hx : a.eval x = .pointer (some ⟨g, 0, none⟩)) (hy : a.eval y = .agg cells) {t : TypeId} {old : Array Value}
    (hg : w.heap[g]? = some (.cells old t (0, 0))) (hi : (P.info? ty).map (·.size) = some cells.size) (hold : old.size = cells.size) (h1 : cells.all (·.oneCell') = true)
    (h : ∀ w' : World, w'.heap[g]? = some (.cells cells t (0, 0)) → w.grownBy w' (some g) → w'.heap.size = w.heap.size → wpList P ops Q rest (a.put o.dst undef) w') : wpList P ops Q (o :: rest) a w :=
  wpList_store_row hgd ty x y ho g cells hx hy t old hg hi hold h1 (h _ (setRow_heap w g old _ t _ hg) ⟨rfl, rfl, rfl, by simp, fun i hi hr => setRow_other w g i _ (by rintro rfl; exact hr rfl)⟩ (by simp))
/-- A row of words read out of the midst of a block. -/
theorem wpList_loadM (hgd : o.guard = none) (ty : TypeId) (x : Operand) (ho : o.op = .load ty x) (b f : Nat) (hx : a.eval x = .pointer (some ⟨b, f, none⟩)) (xs : List Nat) {k : Nat} (hl : xs.length = k) {e : TypeId}
    (hc : w.rangeAt b f (wcells xs).toList) (hu : P.underlying ty = some (.array k e)) (hi : (P.info? ty).map (·.size) = some k)
    (h : wpList P ops Q rest (a.put o.dst (.agg (wcells xs))) w) : wpList P ops Q (o :: rest) a w :=
  wpList_load_mid hgd ty x ho b f hx (wcells xs).toList _ hc hu rfl (by rw [Array.length_toList, wcells_size, hl]; exact hi) h
end

theorem bits_not (x : UInt64) : bits .xor .u64 IntKind.u64.max (x.toNat : Int) = ((wc x).toNat : Int) := by
  rw [← ones_xor]
  show IntKind.u64.wrap ((BitVec.ofInt 64 ((18446744073709551615 : UInt64).toNat : Int) ^^^ BitVec.ofInt 64 (x.toNat : Int)).toNat : Int) = ((18446744073709551615 ^^^ x).toNat : Int)
  rw [bv_word, bv_word, wrap_word]
  congr 1
  rw [← UInt64.toBitVec_xor]
  simp only [UInt64.toNat_toBitVec, UInt64.ofNat_toNat]
theorem bits_and' (x y : UInt64) : bits .and .u64 (x.toNat : Int) (y.toNat : Int) = ((wn x y).toNat : Int) := by
  show IntKind.u64.wrap ((BitVec.ofInt 64 (x.toNat : Int) &&& BitVec.ofInt 64 (y.toNat : Int)).toNat : Int) = ((x &&& y).toNat : Int)
  rw [bv_word, bv_word, wrap_word]
  congr 1
  rw [← UInt64.toBitVec_and]
  simp only [UInt64.toNat_toBitVec, UInt64.ofNat_toNat]
theorem bits_or' (x y : UInt64) : bits .or .u64 (x.toNat : Int) (y.toNat : Int) = ((wo x y).toNat : Int) := by
  show IntKind.u64.wrap ((BitVec.ofInt 64 (x.toNat : Int) ||| BitVec.ofInt 64 (y.toNat : Int)).toNat : Int) = ((x ||| y).toNat : Int)
  rw [bv_word, bv_word, wrap_word]
  congr 1
  rw [← UInt64.toBitVec_or]
  simp only [UInt64.toNat_toBitVec, UInt64.ofNat_toNat]
theorem wrap_add' (x y : UInt64) : IntKind.u64.wrap ((x.toNat : Int) + (y.toNat : Int)) = ((wa x y).toNat : Int) := by
  rw [show (x.toNat : Int) + (y.toNat : Int) = ((x.toNat + y.toNat : Nat) : Int) by omega, wrap_word]
  congr 1
attribute [local go_sem] wrap_ob bits_not bits_and' bits_or' wrap_add'
def BlockPost (st ks : List UInt64) (r : Value) (al : Nat) (g : Nat) (bs : List UInt8) (w : World) (e : Ending) (w' : World) : Prop :=
  e = .returned (.tuple #[]) ∧ w'.heap[g]? = some (.cells (hashCells (compress ks st bs) ks r al) 76 (0, 0)) ∧ w.grownBy w' (some g)

set_option maxHeartbeats 4000000 in
set_option maxRecDepth 100000 in
theorem block_t (st ks : List UInt64) (r : Value) (al : Nat) (g : Nat) (bs : List UInt8) (A : Option Addr) (n c : Nat) (S : Nat → Prop) (w : World) (hst : st.length = 8) (hks : ks.length = 80)
    (hb : w.heap[g]? = some (.cells (hashCells st ks r al) 76 (0, 0))) (hs : Rep.u8.sl w S A n c bs) (hn : 128 ≤ n) (hS : ∀ b, S b → b < w.heap.size) :
    Calls Try.prog 39 #[.pointer (some ⟨g, 0, none⟩), .slice A n c] w (BlockPost st ks r al g bs w) := by
  have z80 := (zero_of_info (P := Try.prog) (t := 70) (v := .agg (wcells (zeros 80))) (n := 80) (by kernel_rfl)).1
  have z8 := (zero_of_info (P := Try.prog) (t := 68) (v := .agg (wcells (zeros 8))) (n := 8) (by kernel_rfl)).1
  have hgl : g < w.heap.size := (Array.getElem?_eq_some_iff.1 hb).1
  obtain ⟨B, o, rfl, hBS, hbyte⟩ := byte_cells hs (by omega)
  have hBl := hS B hBS
  have HBY := Lib.hid hbyte
  have hnc := hs.2.1
  have hcm := hs.2.2.1
  have HBL := Lib.hid hs.1
  have HST := Lib.hid hst
  have HKS := Lib.hid hks
  clear hbyte hs hst hks hBS
  go_enter Try.func39, Try.ntmps39
  go_wp2
  go_loopw [18] (fun ix wr => ∃ (i : Nat), i ≤ 80 ∧ ix = .int .i64 (i : Nat) ∧ wr.heap[w.heap.size]? = some (.cells (wcells (unat (padU 80 (wordsOf bs i)))) 70 (0, 0)) ∧ Below w.heap.size w wr ∧ w.heap.size + 1 ≤ wr.heap.size) (fun ix _ => 80 - (intOf ix).toNat)
  case atStart => exact ⟨0, by omega, rfl, by rw [wordsOf, padU_nil, zerosU_nat]; exact box_at2 rfl, by go_grown, by simp⟩
  case round =>
    obtain ⟨i, hi, rfl, hbw, hB, hsz⟩ := hrel
    by_cases hlt : i < 80
    · have HL : Hid ((padU 80 (wordsOf bs i)).length = 80) := padU_len (by rw [wordsOf_len]; exact hi)
      by_cases h16 : i < 16
      · have hc8 : ¬ c = 8 * i := by omega
        obtain ⟨wo', rfl⟩ : ∃ wo' : World, wo' = wr := ⟨_, rfl⟩
        go_wp2
        go_loopw [31] (fun kx wq => ∃ (k : Nat), k ≤ 8 ∧ kx = .int .i64 (k : Nat) ∧ wq.heap[w.heap.size]? = some (.cells (wcells (unat ((padU 80 (wordsOf bs i)).set i (word8 0 ((bs.drop (8 * i)).take k))))) 70 (0, 0)) ∧ Below w.heap.size w wq ∧ w.heap.size + 1 ≤ wq.heap.size) (fun kx _ => 8 - (intOf kx).toNat)
        case atStart => exact ⟨0, by omega, rfl, by rw [show word8 0 ((bs.drop (8 * i)).take 0) = 0 from rfl, padU_set0 (wordsOf_len bs i) hlt]; exact hbw, hB, hsz⟩
        case round =>
          obtain ⟨k, hk, rfl, hbw2, hB2, hsz2⟩ := hrel
          by_cases hk8 : k < 8
          · have cb := hB2.cell (p := ⟨B, o + (8 * i + k), none⟩) hBl
            rw [HBY.out (8 * i + k) (by omega)] at cb
            have cw := ucell_at hbw2 (i := i) (by rw [List.length_set, HL.out]; exact hlt)
            rw [set_getD (by rw [HL.out]; exact hlt)] at cw
            have fw := boxed_frozen hbw2 i
            have HX : Hid (wo (sl (word8 0 ((bs.drop (8 * i)).take k)) 8) (ob (bs.getD (8 * i + k) 0)) = word8 0 ((bs.drop (8 * i)).take (k + 1))) := by
              show _ = _
              rw [List.take_add_one, show (bs.drop (8 * i))[k]? = some (bs.getD (8 * i + k) 0) by rw [List.getElem?_drop]; simp [List.getD, show 8 * i + k < bs.length by rw [HBL.out]; omega]]
              exact (word8_snoc _ _ _).symm
            have e1 : o + 8 * i + k = o + (8 * i + k) := by omega
            rw [← e1] at cb
            clear e1
            generalize word8 0 ((bs.drop (8 * i)).take k) = x at *
            generalize bs.getD (8 * i + k) 0 = y at *
            go_wp2
            go_roundw
            case rel =>
              refine ⟨k + 1, by omega, by go_num, ?_, hB2.setCell (by simp only; omega) _, by simp; omega⟩
              have := ucell_set hbw2 i (wo (sl x 8) (ob y))
              rw [List.set_set] at this
              rw [← HX.out]
              exact this
            case measure => simp [intOf] <;> omega
          · obtain rfl : k = 8 := by omega
            go_wp2
            go_roundw
            case rel =>
              refine ⟨i + 1, by omega, by go_num, ?_, hB2, hsz2⟩
              have hw := padU_set (n := 80) (ps := wordsOf bs i) (p := word8 0 ((bs.drop (8 * i)).take 8)) (by rw [wordsOf_len]; exact hlt)
              rw [wordsOf_len] at hw
              rw [wordsOf, if_pos h16, ← hw]
              exact hbw2
            case measure => simp [intOf] <;> omega
      · have c15 := ucell_at hbw (i := i - 15) (by rw [HL.out]; omega)
        have c2 := ucell_at hbw (i := i - 2) (by rw [HL.out]; omega)
        have c16 := ucell_at hbw (i := i - 16) (by rw [HL.out]; omega)
        have c7 := ucell_at hbw (i := i - 7) (by rw [HL.out]; omega)
        have c0 := ucell_at hbw (i := i) (by rw [HL.out]; omega)
        have f0 := boxed_frozen hbw i
        rw [padU_get (by rw [wordsOf_len]; omega)] at c15 c2 c16 c7
        have hw := fun p => padU_set (n := 80) (ps := wordsOf bs i) (p := p) (by rw [wordsOf_len]; exact hlt)
        rw [wordsOf_len] at hw
        have HW := Lib.hid hw
        clear hw
        have HN : Hid (wordsOf bs (i + 1) = wordsOf bs i ++ [wa (wa (wa ((wordsOf bs i).getD (i - 16) 0) (small0 ((wordsOf bs i).getD (i - 15) 0))) ((wordsOf bs i).getD (i - 7) 0)) (small1 ((wordsOf bs i).getD (i - 2) 0))]) := by
          show _ = _
          rw [wordsOf, if_neg h16]
          rfl
        generalize (wordsOf bs i).getD (i - 15) 0 = x at *
        generalize (wordsOf bs i).getD (i - 2) 0 = y at *
        generalize (wordsOf bs i).getD (i - 16) 0 = u at *
        generalize (wordsOf bs i).getD (i - 7) 0 = v at *
        generalize (padU 80 (wordsOf bs i)).getD i 0 = q at *
        have d15 : ((i : Int) - 15).toNat = i - 15 := by omega
        have d2 : ((i : Int) - 2).toNat = i - 2 := by omega
        have d16 : ((i : Int) - 16).toNat = i - 16 := by omega
        have d7 : ((i : Int) - 7).toNat = i - 7 := by omega
        have b15 : (i : Int) - 15 < 80 := by omega
        have b2 : (i : Int) - 2 < 80 := by omega
        have b16 : (i : Int) - 16 < 80 := by omega
        have b7 : (i : Int) - 7 < 80 := by omega
        have p15 : (15 : Int) ≤ (i : Int) := by omega
        have p2 : (2 : Int) ≤ (i : Int) := by omega
        have p16 : (16 : Int) ≤ (i : Int) := by omega
        have p7 : (7 : Int) ≤ (i : Int) := by omega
        have W15 : IntKind.i64.wrap ((i : Int) - 15) = (i : Int) - 15 := IntWalk.i64_in _ (by omega)
        have W2 : IntKind.i64.wrap ((i : Int) - 2) = (i : Int) - 2 := IntWalk.i64_in _ (by omega)
        have W16 : IntKind.i64.wrap ((i : Int) - 16) = (i : Int) - 16 := IntWalk.i64_in _ (by omega)
        have W7 : IntKind.i64.wrap ((i : Int) - 7) = (i : Int) - 7 := IntWalk.i64_in _ (by omega)
        go_wp2
        go_quiet (fail)
        go_wp2
        refine wp_region_still_tail 29 (by kernel_rfl) (by kernel_rfl) ?_
        change wpStill _ _ (World.drew _) _ _ _
        simp only [List.take_succ_cons, List.take_zero, List.drop_succ_cons, List.drop_zero]
        repeat (first | still_step | still_call (turn_any _ _ (by decide) _))
        refine wpStill_nil ?_
        change wpList _ _ _ _ _ (World.drew _)
        go_wp2
        clear d15 d2 d16 d7 b15 b2 b16 b7 W15 W2 W16 W7 c15 c2 c16 c7
        go_roundw
        case rel =>
          refine ⟨i + 1, by omega, by go_num, ?_, Below.setCell (below_drewN hB _) (by simp only; omega) _, by simp; omega⟩
          rw [HN.out, ← HW.out]
          exact ucell_set (w := wr) hbw i _
        case measure => simp [intOf] <;> omega
    · obtain rfl : i = 80 := by omega
      rw [padU_full (wordsOf_len bs 80)] at hbw
      have HW : Hid ((wordsOf bs 80).length = 80) := wordsOf_len bs 80
      have HCP : Hid (compress ks st bs = addsW st (roundsW ks (wordsOf bs 80) st 80)) := rfl
      generalize wordsOf bs 80 = ws at *
      have hb1 := box_below hb hB hgl
      have hsu : (unat st).length = 8 := by rw [unat_len, HST.out]
      have hku : (unat ks).length = 80 := by rw [unat_len, HKS.out]
      have HSU := Lib.hid hsu
      have HKU := Lib.hid hku
      clear hsu hku
      go_wp2_with (refine halt_load (ty := 68) rfl ?_)
      refine go_onO (wpList_loadM rfl _ _ rfl g 0 rfl (unat st) HSU.out (hash_state hb1) Try.underlying68 (by kernel_rfl) ?_)
      go_wp2_with (refine halt_store (ty := 68) rfl ?_)
      refine go_onO (wpList_storeW rfl _ _ _ rfl _ (unat st) rfl rfl HSU.out (box_at2 rfl) (by rw [wcells_size, zeros_len]) (by kernel_rfl) ?_)
      intro w2 hbs2 hg2 hs2
      have hbw2 := box_grown (box_alloc hbw _) hg2 (by simp; omega)
      have hb2 := box_grown (box_alloc hb1 _) hg2 (by simp; omega)
      have hB2 := (hB.alloc hB.size _).grown hg2 (by simp; omega) (fun k e => by injection e; omega)
      simp only [World.size_alloc] at hs2
      have hsz2 : wr.heap.size + 1 ≤ w2.heap.size := by omega
      clear hs2 hg2 hbw hb1 hB z80 z8
      go_wp2_with (refine halt_load (ty := 70) rfl ?_)
      refine go_onO (wpList_loadM rfl _ _ rfl g 8 rfl (unat ks) HKU.out (hash_consts HST.out hb2) Try.underlying70 (by kernel_rfl) ?_)
      go_wp2
      obtain ⟨W0, hW0⟩ : ∃ W0 : Nat, W0 = wr.heap.size := ⟨_, rfl⟩
      rw [← hW0] at hbs2 hsz2 ⊢
      have hW0' : w.heap.size + 1 ≤ W0 := by omega
      clear hW0
      have hixk := fun (j : Nat) (hj : j < 80) (v : World) => run_index_words (d := .bool) Try.underlying70 (by kernel_rfl) Try.underlying67 HKU.out hj v
      have HIX := Lib.hid hixk
      clear hixk
      go_loopw [91] (fun jx wq => ∃ (j : Nat), j ≤ 80 ∧ jx = .int .i64 (j : Nat) ∧ wq.heap[w.heap.size]? = some (.cells (wcells (unat ws)) 70 (0, 0)) ∧ wq.heap[W0]? = some (.cells (wcells (unat (roundsW ks ws st j))) 68 (0, 0)) ∧
        wq.heap[g]? = some (.cells (hashCells st ks r al) 76 (0, 0)) ∧ Below w.heap.size w wq ∧ W0 + 1 ≤ wq.heap.size) (fun jx _ => 80 - (intOf jx).toNat)
      case atStart => exact ⟨0, by omega, rfl, hbw2, hbs2, hb2, hB2, hsz2⟩
      case round =>
        obtain ⟨j, hj, rfl, hbw3, hbs3, hb3, hB3, hsz3⟩ := hrel
        by_cases hj80 : j < 80
        · have hixj := HIX.out j hj80
          rw [unat_get] at hixj
          have cw := ucell_at hbw3 (i := j) (by rw [HW.out]; exact hj80)
          have HRN : Hid (roundsW ks ws st (j + 1) = roundW (roundsW ks ws st j) (ks.getD j 0) (ws.getD j 0)) := rfl
          generalize ks.getD j 0 = kj at *
          generalize ws.getD j 0 = wj at *
          have hl8 := roundsW_len (ks := ks) (ws := ws) HST.out j
          generalize roundsW ks ws st j = s at *
          match s, hl8 with
          | [a0, a1, a2, a3, a4, a5, a6, a7], _ =>
            have s0 : wr.cell? ⟨W0, 0, none⟩ = some (.int .u64 (a0.toNat : Int)) := ucell_at hbs3 (i := 0) (by simp)
            have s1 : wr.cell? ⟨W0, 1, none⟩ = some (.int .u64 (a1.toNat : Int)) := ucell_at hbs3 (i := 1) (by simp)
            have s2 : wr.cell? ⟨W0, 2, none⟩ = some (.int .u64 (a2.toNat : Int)) := ucell_at hbs3 (i := 2) (by simp)
            have s3 : wr.cell? ⟨W0, 3, none⟩ = some (.int .u64 (a3.toNat : Int)) := ucell_at hbs3 (i := 3) (by simp)
            have s4 : wr.cell? ⟨W0, 4, none⟩ = some (.int .u64 (a4.toNat : Int)) := ucell_at hbs3 (i := 4) (by simp)
            have s5 : wr.cell? ⟨W0, 5, none⟩ = some (.int .u64 (a5.toNat : Int)) := ucell_at hbs3 (i := 5) (by simp)
            have s6 : wr.cell? ⟨W0, 6, none⟩ = some (.int .u64 (a6.toNat : Int)) := ucell_at hbs3 (i := 6) (by simp)
            have s7 : wr.cell? ⟨W0, 7, none⟩ = some (.int .u64 (a7.toNat : Int)) := ucell_at hbs3 (i := 7) (by simp)
            go_wp2
            go_quiet (fail)
            go_wp2
            go_quiet ((go_at_call 48; exact quiet_later (turn_any _ _ (by decide) _)))
            go_wp2
            go_quiet ((go_at_call 48; exact quiet_later (turn_any _ _ (by decide) _)))
            go_wp2_with (refine halt_store (ty := 68) rfl ?_)
            refine go_onO (wpList_storeR rfl _ _ _ rfl _ _ rfl rfl (w := wr.drewN _) hbs3 (by kernel_rfl) (by rw [wcells_size]; rfl) (by simp [Value.oneCell']) ?_)
            intro w5 hbs5' hg5 hs5
            have hbs5 : w5.heap[W0]? = some (.cells (wcells (unat (roundW [a0, a1, a2, a3, a4, a5, a6, a7] kj wj))) 68 (0, 0)) := by
              rw [round_cells]
              exact hbs5'
            clear hbs5'
            have hbw5 := box_grown (w := wr.drewN _) hbw3 hg5 (by intro e; injection e; omega)
            have hb5 := box_grown (w := wr.drewN _) hb3 hg5 (by intro e; injection e; omega)
            have hB5 := (below_drewN hB3 _).grown hg5 hB3.size (fun k e => by injection e; omega)
            have hsz5 : W0 + 1 ≤ w5.heap.size := by rw [hs5]; exact hsz3
            clear hs5 hg5 s0 s1 s2 s3 s4 s5 s6 s7 cw hixj
            go_wp2
            go_roundw
            case rel => exact ⟨j + 1, by omega, by go_num, hbw5, by rw [HRN.out]; exact hbs5, hb5, hB5, hsz5⟩
            case measure => simp [intOf] <;> omega
        · have hje : j = 80 := by omega
          have HS8 : Hid ((roundsW ks ws st j).length = 8) := roundsW_len HST.out j
          have HC2 : Hid (compress ks st bs = addsW st (roundsW ks ws st j)) := by show _ = _; rw [HCP.out, hje]
          clear hje
          generalize roundsW ks ws st j = s at *
          have HAL : Hid ((addsW st s).length = st.length) := addsW_len (by rw [HST.out, HS8.out])
          have HAG : Hid (∀ m, m < 8 → (addsW st s).getD m 0 = wa (st.getD m 0) (s.getD m 0)) := fun m hm => addsW_get (by rw [HST.out]; exact hm) (by rw [HS8.out]; exact hm)
          have hG3 := grownBy_of_below hB3 (some g)
          go_wp2
          go_loopw [170] (fun mx wq => ∃ (m : Nat), m ≤ 8 ∧ mx = .int .i64 (m : Nat) ∧ wq.heap[g]? = some (.cells (hashCells (mixL (addsW st s) st m) ks r al) 76 (0, 0)) ∧ wq.heap[W0]? = some (.cells (wcells (unat s)) 68 (0, 0)) ∧ w.grownBy wq (some g)) (fun mx _ => 8 - (intOf mx).toNat)
          case atStart => exact ⟨0, by omega, rfl, by rw [show mixL (addsW st s) st 0 = st from rfl]; exact hb3, hbs3, hG3⟩
          case round =>
            obtain ⟨m, hm, rfl, hb4, hbs4, hG4⟩ := hrel
            by_cases hm8 : m < 8
            · have ca := hash_at hb4 (i := m) (by rw [mixL_len HAL.out (by rw [HST.out]; omega), HST.out]; exact hm8)
              rw [mixL_get HAL.out (by rw [HST.out]; exact hm8)] at ca
              have cb := ucell_at hbs4 (i := m) (by rw [HS8.out]; exact hm8)
              have fa := boxed_frozen hb4 m
              have HX := HAG.out m hm8
              have HX2 := Lib.hid HX
              clear HX
              generalize st.getD m 0 = x at *
              generalize s.getD m 0 = y at *
              go_wp2
              refine wp_region_still_tail 13 (by kernel_rfl) (by kernel_rfl) ?_
              change wpStill _ _ (World.drew _) _ _ _
              simp only [List.take_succ_cons, List.take_zero, List.drop_succ_cons, List.drop_zero]
              repeat (first | still_step | fail)
              refine wpStill_nil ?_
              change wpList _ _ _ _ _ (World.drew _)
              go_wp2
              go_roundw
              case rel =>
                refine ⟨m + 1, by omega, by go_num, ?_, box_far (w := wr.drew) hbs4 (by simp only; omega) _, grownBy_set (grownBy_drew hG4) _⟩
                rw [← mixL_set HAL.out (by rw [HST.out]; exact hm8), HX2.out]
                exact hash_set (w := wr.drew) hb4 (by rw [mixL_len HAL.out (by rw [HST.out]; omega), HST.out]; exact hm8) _
              case measure => simp [intOf] <;> omega
            · have hme : m = 8 := by omega
              have hmx : mixL (addsW st s) st m = compress ks st bs := by
                unfold mixL
                rw [HC2.out, hme, List.take_of_length_le (by rw [HAL.out, HST.out]; omega), List.drop_eq_nil_of_le (by rw [HST.out]; omega), List.append_nil]
              rw [hmx] at hb4
              clear hmx hme
              go_wp2
              go_end0
              exact ⟨rfl, hb4, hG4⟩
end Go.Proofs.Ytkgkbaicjpgljaa
