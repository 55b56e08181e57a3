/- Words for memory, for any program: readings ('Rep'), rows that a call owns, and what append does to them. -/
import Derived.WalkKit
import Derived.WalkSpells
import Derived.WalkLawsBesides
import Derived.Lib.Hide
import Derived.Maps.AppendAt
import Derived.Lib.AppendStr
import Derived.Laws.BytesArg
namespace Go.Proofs.YtdakeodebgggfaaDoor
open Go.RowKit

/-- How a piece of data lies in memory: so many cells, and what they hold; 'S' are the blocks that the reading touches. -/
structure Rep (α : Type) where
  size : Nat
  pos : 0 < size
  rd : World → (Nat → Prop) → List Value → α → Prop
  len : ∀ {w S cs x}, rd w S cs x → cs.length = size
  keep : ∀ {w w' S cs x}, rd w S cs x → (∀ p : Addr, S p.block → w'.cell? p = w.cell? p) → rd w' S cs x
  more : ∀ {w S S' cs x}, rd w S cs x → (∀ b, S b → S' b) → rd w S' cs x
  one : ∀ {w S cs x}, rd w S cs x → ∀ u ∈ cs, u.oneCell' = true

section
variable {α : Type} {w w' : World} {S S' : Nat → Prop}

theorem Rep.below {r : Rep α} {cs : List Value} {x : α} {B : Nat} (h : r.rd w S cs x) (hb : Below B w w') (hS : ∀ b, S b → b < B) : r.rd w' S cs x :=
  r.keep h fun _ hp => hb.cell (hS _ hp)
theorem Rep.grown {r : Rep α} {cs : List Value} {x : α} {row : Option Nat} (h : r.rd w S cs x) (hg : w.grownBy w' row) (hS : ∀ b, S b → b < w.heap.size ∧ some b ≠ row) : r.rd w' S cs x :=
  r.keep h fun p hp => World.cell?_of_block (hg.block p.block (hS _ hp).1 (hS _ hp).2)

/-- One cell that holds a number, a bool, a text. -/
def Rep.u8 : Rep UInt8 where
  size := 1
  pos := by omega
  rd := fun _ _ cs x => cs = [.int .u8 (x.toNat : Int)]
  len := fun h => by rw [h]; rfl
  keep := fun h _ => h
  more := fun h _ => h
  one := fun h u hu => by rw [h] at hu; simp at hu; subst hu; rfl
def Rep.i64 : Rep Int where
  size := 1
  pos := by omega
  rd := fun _ _ cs x => cs = [.int .i64 x] ∧ -9223372036854775808 ≤ x ∧ x ≤ 9223372036854775807
  len := fun h => by rw [h.1]; rfl
  keep := fun h _ => h
  more := fun h _ => h
  one := fun h u hu => by rw [h.1] at hu; simp at hu; subst hu; rfl
def Rep.bool : Rep Bool where
  size := 1
  pos := by omega
  rd := fun _ _ cs x => cs = [.bool x]
  len := fun h => by rw [h]; rfl
  keep := fun h _ => h
  more := fun h _ => h
  one := fun h u hu => by rw [h] at hu; simp at hu; subst hu; rfl
def Rep.str : Rep (List UInt8) where
  size := 1
  pos := by omega
  rd := fun _ _ cs x => cs = [.string ⟨x.toArray⟩] ∧ x.length ≤ 9223372036854775807
  len := fun h => by rw [h.1]; rfl
  keep := fun h _ => h
  more := fun h _ => h
  one := fun h u hu => by rw [h.1] at hu; simp at hu; subst hu; rfl

/-- The elements of a row that begins at an address. -/
def Rep.row (r : Rep α) (w : World) (S : Nat → Prop) (b o : Nat) (xs : List α) : Prop :=
  ∀ i x, xs[i]? = some x → ∃ es, r.rd w S es x ∧ ∀ j u, es[j]? = some u → w.cell? ⟨b, o + i * r.size + j, none⟩ = some u

theorem Rep.row_keep {r : Rep α} {b o : Nat} {xs : List α} (h : r.row w S b o xs) (hb : S b) (hk : ∀ p : Addr, S p.block → w'.cell? p = w.cell? p) : r.row w' S b o xs := by
  intro i x hx
  obtain ⟨es, he, hc⟩ := h i x hx
  exact ⟨es, r.keep he hk, fun j u hu => by rw [hk _ hb]; exact hc j u hu⟩
theorem Rep.row_more {r : Rep α} {b o : Nat} {xs : List α} (h : r.row w S b o xs) (hS : ∀ b, S b → S' b) : r.row w S' b o xs := by
  intro i x hx
  obtain ⟨es, he, hc⟩ := h i x hx
  exact ⟨es, r.more he hS, hc⟩

/-- A slice's value that reads as a list, nil let in. -/
def Rep.sl (r : Rep α) (w : World) (S : Nat → Prop) (A : Option Addr) (n c : Nat) (xs : List α) : Prop :=
  xs.length = n ∧ n ≤ c ∧ c ≤ 9223372036854775807 ∧ (0 < n → ∃ b o, A = some ⟨b, o, none⟩ ∧ S b ∧ r.row w S b o xs)

theorem Rep.sl_keep {r : Rep α} {A : Option Addr} {n c : Nat} {xs : List α} (h : r.sl w S A n c xs) (hk : ∀ p : Addr, S p.block → w'.cell? p = w.cell? p) : r.sl w' S A n c xs :=
  ⟨h.1, h.2.1, h.2.2.1, fun hn => by
    obtain ⟨b, o, rfl, hb, hr⟩ := h.2.2.2 hn
    exact ⟨b, o, rfl, hb, r.row_keep hr hb hk⟩⟩
theorem Rep.sl_more {r : Rep α} {A : Option Addr} {n c : Nat} {xs : List α} (h : r.sl w S A n c xs) (hS : ∀ b, S b → S' b) : r.sl w S' A n c xs :=
  ⟨h.1, h.2.1, h.2.2.1, fun hn => by
    obtain ⟨b, o, rfl, hb, hr⟩ := h.2.2.2 hn
    exact ⟨b, o, rfl, hS _ hb, r.row_more hr hS⟩⟩
theorem Rep.sl_below {r : Rep α} {A : Option Addr} {n c B : Nat} {xs : List α} (h : r.sl w S A n c xs) (hb : Below B w w') (hS : ∀ b, S b → b < B) : r.sl w' S A n c xs :=
  r.sl_keep h fun _ hp => hb.cell (hS _ hp)
theorem Rep.sl_back {r : Rep α} {A : Option Addr} {n c B : Nat} {xs : List α} (h : r.sl w' S A n c xs) (hb : Below B w w') (hS : ∀ b, S b → b < B) : r.sl w S A n c xs :=
  r.sl_keep h fun _ hp => (hb.cell (hS _ hp)).symm
theorem Rep.sl_grown {r : Rep α} {A : Option Addr} {n c : Nat} {xs : List α} {row : Option Nat} (h : r.sl w S A n c xs) (hg : w.grownBy w' row) (hS : ∀ b, S b → b < w.heap.size ∧ some b ≠ row) : r.sl w' S A n c xs :=
  r.sl_keep h fun p hp => World.cell?_of_block (hg.block p.block (hS _ hp).1 (hS _ hp).2)
theorem Rep.sl_at {r : Rep α} {A : Option Addr} {n c k : Nat} {xs : List α} (h : r.sl w S A n c xs) (hk : k < n) :
    ∃ b o x es, A = some ⟨b, o, none⟩ ∧ S b ∧ xs[k]? = some x ∧ r.rd w S es x ∧ ∀ j u, es[j]? = some u → w.cell? ⟨b, o + k * r.size + j, none⟩ = some u := by
  obtain ⟨b, o, hA, hb, hr⟩ := h.2.2.2 (by omega)
  have hl : k < xs.length := by have := h.1; omega
  obtain ⟨es, he, hc⟩ := hr k xs[k] (List.getElem?_eq_getElem hl)
  exact ⟨b, o, xs[k], es, hA, hb, List.getElem?_eq_getElem hl, he, hc⟩

/-- A slice as one cell. -/
def Rep.slice (r : Rep α) : Rep (List α) where
  size := 1
  pos := by omega
  rd := fun w S cs xs => ∃ A n c, cs = [.slice A n c] ∧ r.sl w S A n c xs
  len := fun h => by obtain ⟨_, _, _, rfl, _⟩ := h; rfl
  keep := fun h hk => by
    obtain ⟨A, n, c, rfl, h⟩ := h
    exact ⟨A, n, c, rfl, r.sl_keep h hk⟩
  more := fun h hS => by
    obtain ⟨A, n, c, rfl, h⟩ := h
    exact ⟨A, n, c, rfl, r.sl_more h hS⟩
  one := fun h u hu => by
    obtain ⟨A, n, c, rfl, h⟩ := h
    simp at hu
    subst hu
    rfl

theorem Rep.sl_nil {r : Rep α} : r.sl w S none 0 0 [] := ⟨rfl, by omega, by omega, fun h => absurd h (by omega)⟩

/-- A cut 's[k:]', as the model writes its address. -/
theorem Rep.sl_cut {r : Rep α} {A : Option Addr} {n c k : Nat} {xs : List α} (h : r.sl w S A n c xs) (hk : k ≤ n) :
    r.sl w S (if c = k then A else A.map (·.add (k * r.size))) (n - k) (c - k) (xs.drop k) := by
  refine ⟨by rw [List.length_drop, h.1], by have := h.2.1; omega, by have := h.2.2.1; omega, fun hn => ?_⟩
  obtain ⟨b, o, rfl, hb, hr⟩ := h.2.2.2 (by omega)
  have := h.2.1
  rw [if_neg (by omega)]
  refine ⟨b, o + k * r.size, by simp [Addr.add_lit], hb, fun i x hx => ?_⟩
  rw [List.getElem?_drop] at hx
  obtain ⟨es, he, hc⟩ := hr _ x hx
  refine ⟨es, he, fun j u hu => ?_⟩
  rw [← hc j u hu, Nat.add_mul]
  congr 2
  omega
/-- 's[:k]'. -/
theorem Rep.sl_take {r : Rep α} {A : Option Addr} {n c k : Nat} {xs : List α} (h : r.sl w S A n c xs) (hk : k ≤ n) : r.sl w S A k c (xs.take k) := by
  refine ⟨by rw [List.length_take, h.1]; omega, by have := h.2.1; omega, h.2.2.1, fun hn => ?_⟩
  obtain ⟨b, o, rfl, hb, hr⟩ := h.2.2.2 (by omega)
  refine ⟨b, o, rfl, hb, fun i x hx => ?_⟩
  rw [List.getElem?_take] at hx
  split at hx
  · exact hr i x hx
  · cases hx

/-- A row that the call owns, read as data: the cells are the row's, what lies deeper lies in S. -/
def Rep.own (r : Rep α) (e : TypeId) (w : World) (base : Nat) (S : Nat → Prop) (v : Value) (xs : List α) : Prop :=
  ∃ cells : List Value, w.ownsRow base e r.size v xs.length cells ∧ ∀ i x, xs[i]? = some x → r.rd w S ((cells.drop (i * r.size)).take r.size) x

theorem Rep.own_nil {r : Rep α} {e : TypeId} {base : Nat} : r.own e w base S (.slice none 0 0) [] := ⟨[], by simpa using World.ownsRow_nil w base e r.size, fun i x h => by simp at h⟩
theorem Rep.own_lt {r : Rep α} {e : TypeId} {base : Nat} {v : Value} {xs : List α} (h : r.own e w base S v xs) : ∀ k, v.ownBlock = some k → base ≤ k ∧ k < w.heap.size := by
  obtain ⟨cells, ho, _⟩ := h
  exact ho.lt
theorem Rep.own_kept {r : Rep α} {e : TypeId} {base : Nat} {v : Value} {xs : List α} {row : Option Nat} (h : r.own e w base S v xs) (hg : w.grownBy w' row) (hne : v.ownBlock = none ∨ v.ownBlock ≠ row)
    (hS : ∀ b, S b → b < w.heap.size ∧ some b ≠ row) : r.own e w' base S v xs := by
  obtain ⟨cells, ho, hr⟩ := h
  exact ⟨cells, ho.kept hg hne, fun i x hx => r.grown (hr i x hx) hg hS⟩
theorem Rep.own_alloc {r : Rep α} {e : TypeId} {base : Nat} {v : Value} {xs : List α} (h : r.own e w base S v xs) (o : Obj) (hS : ∀ b, S b → b < w.heap.size) : r.own e (w.alloc o) base S v xs :=
  r.own_kept h (World.grownBy_alloc w o none) (by cases hv : v.ownBlock <;> simp) (fun b hb => ⟨hS b hb, by simp⟩)
theorem Rep.own_more {r : Rep α} {e : TypeId} {base : Nat} {v : Value} {xs : List α} (h : r.own e w base S v xs) (hS : ∀ b, S b → S' b) : r.own e w base S' v xs := by
  obtain ⟨cells, ho, hr⟩ := h
  exact ⟨cells, ho, fun i x hx => r.more (hr i x hx) hS⟩
theorem Rep.own_drew {r : Rep α} {e : TypeId} {base : Nat} {v : Value} {xs : List α} (h : r.own e w base S v xs) : r.own e w.drew base S v xs := by
  obtain ⟨cells, ho, hr⟩ := h
  exact ⟨cells, ho.drew, fun i x hx => r.keep (hr i x hx) (fun _ _ => rfl)⟩

theorem ownsRow_base {base base' : Nat} {e : TypeId} {size n : Nat} {v : Value} {cs : List Value} (h : w.ownsRow base e size v n cs) (hb : ∀ k, v.ownBlock = some k → base' ≤ k) : w.ownsRow base' e size v n cs := by
  refine ⟨h.1, ?_⟩
  rcases h.2 with hn | ⟨g, cap, cur, rfl, h1, rest⟩
  · exact .inl hn
  · exact .inr ⟨g, cap, cur, rfl, hb g rfl, rest⟩
theorem Rep.own_base {r : Rep α} {e : TypeId} {base base' : Nat} {v : Value} {xs : List α} (h : r.own e w base S v xs) (hb : ∀ k, v.ownBlock = some k → base' ≤ k) : r.own e w base' S v xs := by
  obtain ⟨cells, ho, hr⟩ := h
  exact ⟨cells, ownsRow_base ho hb, hr⟩

theorem Rep.own_later {r : Rep α} {e : TypeId} {base : Nat} {v : Value} {xs : List α} (h : r.own e w base (fun _ => False) v xs) (hb : Below w.heap.size w w') : r.own e w' base (fun _ => False) v xs :=
  r.own_kept (row := none) h ⟨hb.os, hb.tape, hb.output, hb.size, fun k hk _ => hb.block k hk⟩ (by cases hv : v.ownBlock <;> simp) fun _ h => h.elim
theorem own_blk {r : Rep α} {e t : TypeId} {base g : Nat} {v : Value} {xs : List α} {cs : Array Value} (h : r.own e w base S v xs) (hg : w.heap[g]? = some (.cells cs t (0, 0))) (hne : e ≠ t) : some g ≠ v.ownBlock := by
  obtain ⟨cells, ho, _⟩ := h
  rcases ho.2 with ⟨rfl, _⟩ | ⟨g', cap, cur, rfl, _, hh, _⟩
  · simp [Value.ownBlock]
  · intro he
    have : g = g' := by simpa [Value.ownBlock] using he
    subst this
    rw [hg] at hh
    injection hh with hh
    injection hh with _ ht
    exact hne ht.symm
/-- A block of another type stands behind an append; so does all that was there before the call. -/
theorem box_app {r : Rep α} {e t : TypeId} {base g : Nat} {v : Value} {xs : List α} {cs : Array Value} (h : w.heap[g]? = some (.cells cs t (0, 0))) (ho : r.own e w base S v xs) (hne : e ≠ t) (hg : w.grownBy w' v.ownBlock) :
    w'.heap[g]? = some (.cells cs t (0, 0)) := (hg.block g (Array.getElem?_eq_some_iff.1 h).1 (own_blk ho h hne)).trans h
theorem below_app {r : Rep α} {e : TypeId} {base : Nat} {v : Value} {xs : List α} {w0 : World} (hB : Below base w0 w) (ho : r.own e w base S v xs) (hg : w.grownBy w' v.ownBlock) (hs : base ≤ w0.heap.size) : Below base w0 w' :=
  hB.grown hg (Nat.le_trans hs hB.size) fun k hk => (r.own_lt ho k hk).1

/-- What is owned can be read. -/
theorem Rep.own_sl {r : Rep α} {e : TypeId} {base : Nat} {v : Value} {xs : List α} (h : r.own e w base S v xs) :
    ∃ A c, v = .slice A xs.length c ∧ r.sl w (fun b => S b ∨ v.ownBlock = some b) A xs.length c xs := by
  obtain ⟨cells, ho, hr⟩ := h
  rcases ho.2 with ⟨rfl, hn⟩ | ⟨g, cap, cur, rfl, hb, hg, hc1, hc2, hc3, hc4⟩
  · refine ⟨none, 0, by rw [hn], rfl, by omega, by omega, fun h => absurd h (by omega)⟩
  · refine ⟨_, cap, rfl, rfl, hc1, hc2, fun hn => ⟨g, 0, rfl, .inr rfl, fun i x hx => ?_⟩⟩
    have hx' := hr i x hx
    refine ⟨_, r.more hx' (fun b hb => .inl hb), fun j u hu => ?_⟩
    have hl := r.len hx'
    have hj : j < r.size := by
      have := (List.getElem?_eq_some_iff.1 hu).1
      omega
    rw [List.getElem?_take, if_pos hj, List.getElem?_drop] at hu
    have := ho.cells (g := g) rfl _ u hu
    rw [Addr.add_lit] at this
    rw [← this]
    congr 2
    omega
end

theorem ret_bool {x y : Bool} (h : x = y) : Ending.returned (.bool x) = .returned (.bool y) := by rw [h]
theorem ret_int {k : IntKind} {x y : Int} (h : x = y) : Ending.returned (.int k x) = .returned (.int k y) := by rw [h]

/-- A block that is known whole. -/
theorem boxed {w : World} {g : Nat} {cs : Array Value} {t : TypeId} (h : w.heap[g]? = some (.cells cs t (0, 0))) : ∀ j v, cs.toList[j]? = some v → w.cell? ⟨g, j, none⟩ = some v := by
  intro j v hv
  rw [cell_of_row w g j cs t (0, 0) h]
  simpa using hv
theorem boxed_frozen {w : World} {g : Nat} {cs : Array Value} {t : TypeId} (h : w.heap[g]? = some (.cells cs t (0, 0))) (j : Nat) : w.frozen? ⟨g, j, none⟩ = false := by
  simp [World.frozen?, h]
theorem box_new (w : World) (cs : Array Value) (t : TypeId) : (w.alloc (.cells cs t)).heap[w.heap.size]? = some (.cells cs t (0, 0)) := heap_alloc_new w _
theorem box_alloc {w : World} {g : Nat} {x : Obj} (h : w.heap[g]? = some x) (o : Obj) : (w.alloc o).heap[g]? = some x := (Below.heap_alloc w o g (Array.getElem?_eq_some_iff.1 h).1).trans h
theorem box_grown {w w' : World} {g : Nat} {x : Obj} {row : Option Nat} (h : w.heap[g]? = some x) (hg : w.grownBy w' row) (hr : some g ≠ row) : w'.heap[g]? = some x := (hg.block g (Array.getElem?_eq_some_iff.1 h).1 hr).trans h
theorem box_below {w w' : World} {g B : Nat} {x : Obj} (h : w.heap[g]? = some x) (hb : Below B w w') (hg : g < B) : w'.heap[g]? = some x := (hb.block g hg).trans h

/-- How a call leaves a row that it was handed to append to. -/
def AppPost {α : Type} (r : Rep α) (e : TypeId) (w : World) (base : Nat) (v : Value) (xs : List α) (en : Ending) (w' : World) : Prop :=
  ∃ v', en = .returned v' ∧ r.own e w' base (fun _ => False) v' xs ∧ w.grownBy w' v.ownBlock
theorem grownBy_trans {a b c : World} {row : Option Nat} (h : a.grownBy b row) (k : b.grownBy c row) : a.grownBy c row :=
  ⟨k.os.trans h.os, k.tape.trans h.tape, k.output.trans h.output, Nat.le_trans h.size k.size, fun i hi hr => (k.block i (Nat.lt_of_lt_of_le hi h.size) hr).trans (h.block i hi hr)⟩

theorem rd_u8 {w : World} {S : Nat → Prop} {y : UInt8} {k : Int} (h : (y.toNat : Int) = k) : Rep.u8.rd w S [.int .u8 k] y := by
  subst h
  rfl
theorem below_between {B : Nat} {w a b : World} (h : Below B w a) (k : Below B w b) (hs : a.heap.size ≤ b.heap.size) : Below B a b :=
  ⟨k.os.trans h.os.symm, k.tape.trans h.tape.symm, k.output.trans h.output.symm, hs, fun i hi => (k.block i hi).trans (h.block i hi).symm⟩

/-- A byte out of a number. -/
def ub (k : Int) : UInt8 := UInt8.ofNat k.toNat
theorem ub_val {k : Int} (h0 : 0 ≤ k) (h1 : k ≤ 255) : ((ub k).toNat : Int) = k := by
  unfold ub
  rw [UInt8.toNat_ofNat']
  omega

/-- The walk halts where this stands. -/
def Halted (p : Prop) : Prop := p
theorem halt {p : Prop} (h : Halted p) : p := h
theorem go_on {p : Prop} (h : p) : Halted p := h

/-- What a row's append asks of the program's table: the slice's type, its element's. -/
structure ElemT (P : Program) (t e : TypeId) (z : Value) (size bytes : Nat) : Prop where
  und : P.underlying t = some (.slice e)
  info : (P.info? e).map (fun i => (i.zero, i.size, i.bytes)) = some (some z, size, bytes)
  zsz : z.cells.size = size
  pos : 0 < size

section
variable {α : Type} {P : Program} {w w' : World} {S : Nat → Prop} {ops : Array Oper} {rest : List Oper} {o : Oper} {a : Act} {Q : Exit → Act → World → Prop}

/-- The cells of a row, one behind the other. -/
theorem Rep.row_cells {r : Rep α} {b : Nat} : ∀ {xs : List α} {o : Nat}, r.row w S b o xs →
    ∃ cells : List Value, cells.length = xs.length * r.size ∧ (∀ j u, cells[j]? = some u → w.cell? ⟨b, o + j, none⟩ = some u) ∧ (∀ u ∈ cells, u.oneCell' = true) ∧
      ∀ i x, xs[i]? = some x → r.rd w S ((cells.drop (i * r.size)).take r.size) x := by
  intro xs
  induction xs with
  | nil => exact fun _ => ⟨[], by simp, by simp, by simp, by simp⟩
  | cons x xs ih =>
    intro o h
    obtain ⟨es, he, hc⟩ := h 0 x rfl
    have hl := r.len he
    obtain ⟨cells, h1, h2, h3, h4⟩ := @ih (o + r.size) (fun i y hy => by
      obtain ⟨es, he, hc⟩ := h (i + 1) y (by simpa using hy)
      refine ⟨es, he, fun j u hu => ?_⟩
      rw [← hc j u hu, Nat.add_mul, Nat.one_mul]
      congr 2
      omega)
    refine ⟨es ++ cells, by rw [List.length_append, h1, hl, List.length_cons, Nat.add_mul]; omega, fun j u hu => ?_, ?_, fun i y hy => ?_⟩
    · by_cases hj : j < es.length
      · rw [List.getElem?_append_left hj] at hu
        have := hc j u hu
        simpa using this
      · rw [List.getElem?_append_right (by omega)] at hu
        have := h2 _ u hu
        rw [← this]
        congr 2
        omega
    · intro u hu
      rcases List.mem_append.1 hu with hu | hu
      · exact r.one he u hu
      · exact h3 u hu
    · cases i with
      | zero =>
        simp at hy
        subst hy
        simpa [← hl] using he
      | succ i =>
        have := h4 i y (by simpa using hy)
        rw [Nat.add_mul, Nat.one_mul, Nat.add_comm, ← List.drop_drop, ← hl, List.drop_left, hl]
        exact this

theorem own_snoc {r : Rep α} {e : TypeId} {base : Nat} {v' : Value} {xs ys : List α} {cells news : List Value} {m : Nat} (ho : w'.ownsRow base e r.size v' (xs.length + m) (cells ++ news)) (hcl : cells.length = xs.length * r.size) (hm : ys.length = m)
    (hx : ∀ i x, xs[i]? = some x → r.rd w S ((cells.drop (i * r.size)).take r.size) x) (hy : ∀ i x, ys[i]? = some x → r.rd w S ((news.drop (i * r.size)).take r.size) x)
    {row : Option Nat} (hg : w.grownBy w' row) (hS : ∀ b, S b → b < w.heap.size ∧ some b ≠ row) : r.own e w' base S v' (xs ++ ys) := by
  refine ⟨cells ++ news, by rw [List.length_append, hm]; exact ho, fun i x hi => ?_⟩
  refine r.grown ?_ hg hS
  by_cases h : i < xs.length
  · rw [List.getElem?_append_left h] at hi
    have hxx := hx i x hi
    have hl := r.len hxx
    have h2 : i * r.size + r.size ≤ cells.length := by
      rw [hcl]
      have : (i + 1) * r.size ≤ xs.length * r.size := Nat.mul_le_mul_right _ h
      rw [Nat.add_mul] at this
      omega
    rw [List.drop_append_of_le_length (by omega), List.take_append_of_le_length (by rw [List.length_drop]; omega)]
    exact hxx
  · rw [List.getElem?_append_right (by omega)] at hi
    have hyy := hy _ x hi
    have e1 : i * r.size = cells.length + (i - xs.length) * r.size := by rw [hcl, ← Nat.add_mul]; congr 1; omega
    rw [e1, ← List.drop_drop, List.drop_left]
    exact hyy

theorem run_app_nil (base : Nat) (t ty e : TypeId) (i : TypeInfo) (size : Nat) (ht : P.underlying t = some (.slice e)) (hi : P.info? e = some i)
    (v : Value) (n : Nat) (xs : List Value) (hown : w.ownsRow base e size v n xs) (c : Nat) : (Builtin.append_ #[t, t] ty #[v, .slice none 0 c]).run P w = .ok v w := by
  rcases hown.2 with ⟨rfl, rfl⟩ | ⟨g, cap, cur, rfl, _, _, hnc, _⟩
  · simp [Builtin.append_, run_underlying ht, sizeOf, typeInfo, hi, Builtin.lenOf, Builtin.firstCells]
  · simp [Builtin.append_, run_underlying ht, sizeOf, typeInfo, hi, Builtin.lenOf, Builtin.firstCells, hnc, storeCells]

/-- append onto a row that the call owns. -/
theorem run_app {r : Rep α} {t e : TypeId} {z : Value} {bytes : Nat} (T : ElemT P t e z r.size bytes) (ty : TypeId) {base : Nat} {v : Value} {xs : List α} (hown : r.own e w base S v xs)
    {A : Option Addr} {m c : Nat} {news : List Value} {ys : List α} (hl : news.length = m * r.size) (hA : 0 < m → ∃ ad, A = some ad ∧ ∀ j u, news[j]? = some u → w.cell? (ad.add j) = some u)
    (hone : ∀ u ∈ news, u.oneCell' = true) (hm : ys.length = m) (hy : ∀ i x, ys[i]? = some x → r.rd w S ((news.drop (i * r.size)).take r.size) x)
    (hbytes : (xs.length + m) * bytes ≤ 140737488355328) (h63 : xs.length + m ≤ 9223372036854775807) (hbase : base ≤ w.heap.size) (hS : ∀ b, S b → b < w.heap.size ∧ some b ≠ v.ownBlock) :
    ∃ v' w', (Builtin.append_ #[t, t] ty #[v, .slice A m c]).run P w = .ok v' w' ∧ r.own e w' base S v' (xs ++ ys) ∧ w.grownBy w' v.ownBlock ∧ (v'.ownBlock = v.ownBlock ∨ v'.ownBlock = some w.heap.size) := by
  obtain ⟨i, hi, hz, hs, hb⟩ := info_parts T.info
  obtain ⟨cells, ho, hr⟩ := hown
  cases A with
  | none =>
    have hm0 : m = 0 := by
      rcases Nat.eq_zero_or_pos m with h | h
      · exact h
      · obtain ⟨_, h, _⟩ := hA h
        cases h
    subst hm0
    have : ys = [] := List.eq_nil_of_length_eq_zero hm
    subst this
    refine ⟨v, w, run_app_nil base t ty e i r.size T.und hi v _ cells ho c, ⟨cells, by simpa using ho, by simpa using hr⟩, World.grownBy.refl _ _, .inl rfl⟩
  | some ad =>
    have hc : ∀ j u, news[j]? = some u → w.cell? (ad.add j) = some u := by
      intro j u hu
      rcases Nat.eq_zero_or_pos m with h | h
      · subst h
        have hn : news = [] := List.eq_nil_of_length_eq_zero (by simpa using hl)
        subst hn
        simp at hu
      · obtain ⟨ad', e1, h2⟩ := hA h
        injection e1 with e1
        subst e1
        exact h2 j u hu
    obtain ⟨v', w', h1, h2, h3, _, h5⟩ := run_append_own_at (P := P) w base t ty e i z r.size bytes T.und hi hz hs hb T.zsz T.pos v _ cells ho ad m c news hl hc hone (by simpa [maxLen] using h63) hbytes hbase
    exact ⟨v', w', h1, own_snoc h2 ho.1 hm hr hy h3 hS, h3, h5⟩

/-- The same, at the operation. -/
theorem wp_app {K : Act → World → Prop} {r : Rep α} {t e : TypeId} {z : Value} {bytes : Nat} (T : ElemT P t e z r.size bytes) (s x : Operand)
    (ho : o.op = .call { callee := .builtin .append, args := #[s, x], argTypes := #[t, t] }) {base : Nat} {v : Value} {xs : List α} (hs : a.eval s = v) (hown : r.own e w base S v xs)
    {A : Option Addr} {m c : Nat} (news : List Value) {ys : List α} (hx : a.eval x = .slice A m c) (hl : news.length = m * r.size) (hA : 0 < m → ∃ ad, A = some ad ∧ ∀ j u, news[j]? = some u → w.cell? (ad.add j) = some u)
    (hone : ∀ u ∈ news, u.oneCell' = true) (hm : ys.length = m) (hy : ∀ i x, ys[i]? = some x → r.rd w S ((news.drop (i * r.size)).take r.size) x)
    (hbytes : (xs.length + m) * bytes ≤ 140737488355328) (h63 : xs.length + m ≤ 9223372036854775807) (hbase : base ≤ w.heap.size) (hS : ∀ b, S b → b < w.heap.size ∧ some b ≠ v.ownBlock)
    (h : ∀ v' w', r.own e w' base S v' (xs ++ ys) → w.grownBy w' v.ownBlock → (v'.ownBlock = v.ownBlock ∨ v'.ownBlock = some w.heap.size) → K (a.put o.dst v') w') : o.wp P a w K Q := by
  obtain ⟨v', w', hrun, h2, h3, h4⟩ := run_app T o.type hown (c := c) hl hA hone hm hy hbytes h63 hbase hS
  unfold Oper.wp execOp
  simp only [ho, resolve, invoke, builtin, Sem.run_bind, Sem.run_pure, Result.andThen_ok, List.map_toArray, List.map_cons, List.map_nil, hs, hx, hrun]
  exact h v' w' h2 h3 h4

/-- A literal's row. -/
theorem own_lit {r : Rep α} {e : TypeId} {base : Nat} (cs : Array Value) (xs : List α) {g n : Nat} (hg : g = w.heap.size) (hn : xs.length = n) (hb : base ≤ w.heap.size) (hm : n ≤ 9223372036854775807) (hs : cs.size = n * r.size)
    (hS : ∀ b, S b → b < w.heap.size) (hr : ∀ i x, xs[i]? = some x → r.rd w S ((cs.toList.drop (i * r.size)).take r.size) x) :
    r.own e (w.alloc (.cells cs e)) base S (.slice (some ⟨g, 0, none⟩) n n) xs := by
  subst hg
  subst hn
  exact ⟨cs.toList, World.ownsRow_lit w cs _ hb (by simpa [maxLen] using hm) hs, fun i x hx => r.grown (hr i x hx) (World.grownBy_alloc w _ none) fun b h => ⟨hS b h, by simp⟩⟩
theorem rd_one {r : Rep α} {x : α} {cs : List Value} (h : r.rd w S cs x) : ∀ i y, [x][i]? = some y → r.rd w S ((cs.drop (i * r.size)).take r.size) y := by
  intro i y hi
  cases i with
  | zero =>
    simp at hi
    subst hi
    rw [Nat.zero_mul, List.drop_zero, List.take_of_length_le (by rw [r.len h]; exact Nat.le_refl _)]
    exact h
  | succ i => simp at hi
theorem rd_cons {r : Rep α} {x : α} {xs : List α} {cs ds : List Value} (h : r.rd w S cs x) (ht : ∀ i y, xs[i]? = some y → r.rd w S ((ds.drop (i * r.size)).take r.size) y) :
    ∀ i y, (x :: xs)[i]? = some y → r.rd w S (((cs ++ ds).drop (i * r.size)).take r.size) y := by
  intro i y hi
  have hl := r.len h
  cases i with
  | zero =>
    simp at hi
    subst hi
    rw [Nat.zero_mul, List.drop_zero, ← hl, List.take_left]
    exact h
  | succ i =>
    have := ht i y (by simpa using hi)
    rw [Nat.add_mul, Nat.one_mul, Nat.add_comm, ← List.drop_drop, ← hl, List.drop_left, hl]
    exact this

/-- append of one element that stands in a block just made ('append(out, x)'). -/
theorem wpList_app1 (hgd : o.guard = none) {r : Rep α} {t e : TypeId} {z : Value} {bytes : Nat} (T : ElemT P t e z r.size bytes) (s x : Operand)
    (ho : o.op = .call { callee := .builtin .append, args := #[s, x], argTypes := #[t, t] }) {base : Nat} {v : Value} {xs : List α} (hs : a.eval s = v) (hown : r.own e w base S v xs)
    {ad : Addr} {c : Nat} (news : List Value) (y : α) (hx : a.eval x = .slice (some ad) 1 c) (hA : ∀ j u, news[j]? = some u → w.cell? (ad.add j) = some u) (hy : r.rd w S news y)
    (hbytes : (xs.length + 1) * bytes ≤ 140737488355328) (h63 : xs.length + 1 ≤ 9223372036854775807) (hbase : base ≤ w.heap.size) (hS : ∀ b, S b → b < w.heap.size ∧ some b ≠ v.ownBlock)
    (h : ∀ v' w', r.own e w' base S v' (xs ++ [y]) → w.grownBy w' v.ownBlock → (v'.ownBlock = v.ownBlock ∨ v'.ownBlock = some w.heap.size) → wpList P ops Q rest (a.put o.dst v') w') : wpList P ops Q (o :: rest) a w :=
  wpList_plain hgd fun K hK => wp_app T s x ho hs hown (A := some ad) (m := 1) (c := c) news (ys := [y]) hx (by rw [r.len hy]; omega) (fun _ => ⟨ad, rfl, hA⟩) (r.one hy) rfl
    (fun i x hi => by
      cases i with
      | zero =>
        simp at hi
        subst hi
        rw [Nat.zero_mul, List.drop_zero, List.take_of_length_le (by rw [r.len hy]; exact Nat.le_refl _)]
        exact hy
      | succ i => simp at hi) hbytes h63 hbase hS fun v' w' h2 h3 h4 => hK _ _ (h v' w' h2 h3 h4)

/-- append of some elements that stand in a block just made ('append(out, x, y)'). -/
theorem wpList_appL (hgd : o.guard = none) {r : Rep α} {t e : TypeId} {z : Value} {bytes : Nat} (T : ElemT P t e z r.size bytes) (s x : Operand)
    (ho : o.op = .call { callee := .builtin .append, args := #[s, x], argTypes := #[t, t] }) {base : Nat} {v : Value} {xs : List α} (hs : a.eval s = v) (hown : r.own e w base S v xs)
    {ad : Addr} {m c : Nat} (news : List Value) (ys : List α) (hx : a.eval x = .slice (some ad) m c) (hA : ∀ j u, news[j]? = some u → w.cell? (ad.add j) = some u) (hm : ys.length = m) (hl : news.length = m * r.size)
    (hy : ∀ i x, ys[i]? = some x → r.rd w S ((news.drop (i * r.size)).take r.size) x) (hone : ∀ u ∈ news, u.oneCell' = true)
    (hbytes : (xs.length + m) * bytes ≤ 140737488355328) (h63 : xs.length + m ≤ 9223372036854775807) (hbase : base ≤ w.heap.size) (hS : ∀ b, S b → b < w.heap.size ∧ some b ≠ v.ownBlock)
    (h : ∀ v' w', r.own e w' base S v' (xs ++ ys) → w.grownBy w' v.ownBlock → (v'.ownBlock = v.ownBlock ∨ v'.ownBlock = some w.heap.size) → wpList P ops Q rest (a.put o.dst v') w') : wpList P ops Q (o :: rest) a w :=
  wpList_plain hgd fun _ hK => wp_app T s x ho hs hown (A := some ad) (m := m) (c := c) news (ys := ys) hx hl (fun _ => ⟨ad, rfl, hA⟩) hone hm hy hbytes h63 hbase hS fun v' w' h2 h3 h4 => hK _ _ (h v' w' h2 h3 h4)

/-- append of a slice that reads as a list, elements that lie in themselves. -/
def Rep.Flat (r : Rep α) : Prop := ∀ w w' S S' cs x, r.rd w S cs x → r.rd w' S' cs x
theorem flat_u8 : Rep.u8.Flat := fun _ _ _ _ _ _ h => h
theorem flat_i64 : Rep.i64.Flat := fun _ _ _ _ _ _ h => h
theorem wpList_appF (hgd : o.guard = none) {r : Rep α} {S' : Nat → Prop} (hf : r.Flat) {t e : TypeId} {z : Value} {bytes : Nat} (T : ElemT P t e z r.size bytes) (s x : Operand)
    (ho : o.op = .call { callee := .builtin .append, args := #[s, x], argTypes := #[t, t] }) {base : Nat} {v : Value} {xs : List α} (hs : a.eval s = v) (hown : r.own e w base S v xs)
    {A : Option Addr} {m c : Nat} {ys : List α} (hx : a.eval x = .slice A m c) (hsl : r.sl w S' A m c ys)
    (hbytes : (xs.length + m) * bytes ≤ 140737488355328) (h63 : xs.length + m ≤ 9223372036854775807) (hbase : base ≤ w.heap.size) (hS : ∀ b, S b → b < w.heap.size ∧ some b ≠ v.ownBlock)
    (h : ∀ v' w', r.own e w' base S v' (xs ++ ys) → w.grownBy w' v.ownBlock → (v'.ownBlock = v.ownBlock ∨ v'.ownBlock = some w.heap.size) → wpList P ops Q rest (a.put o.dst v') w') : wpList P ops Q (o :: rest) a w := by
  rcases Nat.eq_zero_or_pos m with hm | hm
  · have h0 := hsl.1
    rw [hm] at h0
    have : ys = [] := List.eq_nil_of_length_eq_zero h0
    subst this
    exact wpList_plain hgd fun K hK => wp_app T s x ho hs hown (A := A) (m := m) (c := c) [] (ys := []) hx (by simp [hm]) (fun h => absurd h (by omega)) (by simp) hsl.1 (by simp) hbytes h63 hbase hS
      fun v' w' h2 h3 h4 => hK _ _ (h v' w' h2 h3 h4)
  · obtain ⟨b, o', rfl, hb, hr⟩ := hsl.2.2.2 hm
    obtain ⟨cells, h1, h2, h3, h4⟩ := r.row_cells hr
    exact wpList_plain hgd fun K hK => wp_app T s x ho hs hown (A := some ⟨b, o', none⟩) (m := m) (c := c) cells (ys := ys) hx (by rw [h1, hsl.1]) (fun _ => ⟨_, rfl, fun j u hu => by rw [Addr.add_lit]; exact h2 j u hu⟩) h3 hsl.1 (fun i x hi => hf _ _ _ _ _ _ (h4 i x hi)) hbytes h63 hbase hS
      fun v' w' h2 h3 h4 => hK _ _ (h v' w' h2 h3 h4)

/-- append of a slice that reads as a list ('append(out, xs...)'). -/
theorem wpList_appS (hgd : o.guard = none) {r : Rep α} {t e : TypeId} {z : Value} {bytes : Nat} (T : ElemT P t e z r.size bytes) (s x : Operand)
    (ho : o.op = .call { callee := .builtin .append, args := #[s, x], argTypes := #[t, t] }) {base : Nat} {v : Value} {xs : List α} (hs : a.eval s = v) (hown : r.own e w base S v xs)
    {A : Option Addr} {m c : Nat} {ys : List α} (hx : a.eval x = .slice A m c) (hsl : r.sl w S A m c ys)
    (hbytes : (xs.length + m) * bytes ≤ 140737488355328) (h63 : xs.length + m ≤ 9223372036854775807) (hbase : base ≤ w.heap.size) (hS : ∀ b, S b → b < w.heap.size ∧ some b ≠ v.ownBlock)
    (h : ∀ v' w', r.own e w' base S v' (xs ++ ys) → w.grownBy w' v.ownBlock → (v'.ownBlock = v.ownBlock ∨ v'.ownBlock = some w.heap.size) → wpList P ops Q rest (a.put o.dst v') w') : wpList P ops Q (o :: rest) a w := by
  rcases Nat.eq_zero_or_pos m with hm | hm
  · have h0 := hsl.1
    rw [hm] at h0
    have : ys = [] := List.eq_nil_of_length_eq_zero h0
    subst this
    exact wpList_plain hgd fun K hK => wp_app T s x ho hs hown (A := A) (m := m) (c := c) [] (ys := []) hx (by simp [hm]) (fun h => absurd h (by omega)) (by simp) hsl.1 (by simp) hbytes h63 hbase hS
      fun v' w' h2 h3 h4 => hK _ _ (h v' w' h2 h3 h4)
  · obtain ⟨b, o', rfl, hb, hr⟩ := hsl.2.2.2 hm
    obtain ⟨cells, h1, h2, h3, h4⟩ := r.row_cells hr
    exact wpList_plain hgd fun K hK => wp_app T s x ho hs hown (A := some ⟨b, o', none⟩) (m := m) (c := c) cells (ys := ys) hx (by rw [h1, hsl.1]) (fun _ => ⟨_, rfl, fun j u hu => by rw [Addr.add_lit]; exact h2 j u hu⟩) h3 hsl.1 h4 hbytes h63 hbase hS
      fun v' w' h2 h3 h4 => hK _ _ (h v' w' h2 h3 h4)

/-- append of a text's bytes ('append(out, s...)'). -/
theorem wp_appT {K : Act → World → Prop} {t u e : TypeId} (T : ElemT P t e (.int .u8 0) 1 1) (hu : P.underlying u = some .string) (s x : Operand)
    (ho : o.op = .call { callee := .builtin .append, args := #[s, x], argTypes := #[t, u] }) {base : Nat} {v : Value} {xs ys : List UInt8} (hs : a.eval s = v) (hown : Rep.u8.own e w base (fun _ => False) v xs)
    (hx : a.eval x = .string ⟨ys.toArray⟩) (hbytes : xs.length + ys.length ≤ 140737488355328) (hbase : base ≤ w.heap.size)
    (h : ∀ v' w', Rep.u8.own e w' base (fun _ => False) v' (xs ++ ys) → w.grownBy w' v.ownBlock → K (a.put o.dst v') w') : o.wp P a w K Q := by
  obtain ⟨i, hi, hz, hsz, hb⟩ := info_parts T.info
  obtain ⟨cells, hc, hr⟩ := hown
  have hl : ByteArray.size ⟨ys.toArray⟩ = ys.length := by simp [ByteArray.size]
  obtain ⟨v', w', hrun, h2, h3, _⟩ := Lib.run_append_own_string (P := P) w base t u o.type e i T.und hu hi hz hsz hb v _ cells hc ⟨ys.toArray⟩ (by rw [hl]; simp only [maxLen]; omega) (by rw [hl]; exact hbytes) hbase
  unfold Oper.wp execOp
  simp only [ho, resolve, invoke, builtin, Sem.run_bind, Sem.run_pure, Result.andThen_ok, List.map_toArray, List.map_cons, List.map_nil, hs, hx, hrun]
  rw [hl] at h2
  exact h v' w' (own_snoc (r := Rep.u8) h2 hc.1 rfl hr (fun i x hi => by
    show _ = _
    have : i < ys.length := (List.getElem?_eq_some_iff.1 hi).1
    rw [show Rep.u8.size = 1 from rfl, Nat.mul_one, List.take_one, List.head?_drop, Lib.strCells]
    simp [hi]) h3 (fun _ h => h.elim)) h3
theorem wpList_appT (hgd : o.guard = none) {t u e : TypeId} (T : ElemT P t e (.int .u8 0) 1 1) (hu : P.underlying u = some .string) (s x : Operand)
    (ho : o.op = .call { callee := .builtin .append, args := #[s, x], argTypes := #[t, u] }) {base : Nat} {v : Value} {xs ys : List UInt8} (hs : a.eval s = v) (hown : Rep.u8.own e w base (fun _ => False) v xs)
    (hx : a.eval x = .string ⟨ys.toArray⟩) (hbytes : xs.length + ys.length ≤ 140737488355328) (hbase : base ≤ w.heap.size)
    (h : ∀ v' w', Rep.u8.own e w' base (fun _ => False) v' (xs ++ ys) → w.grownBy w' v.ownBlock → wpList P ops Q rest (a.put o.dst v') w') : wpList P ops Q (o :: rest) a w :=
  wpList_plain hgd fun _ hK => wp_appT T hu s x ho hs hown hx hbytes hbase fun v' w' h2 h3 => hK _ _ (h v' w' h2 h3)
/-- The same at a step of a region that draws its order. -/
theorem step_appT {K : Act → World → Prop} {E : Prop} (hgd : o.guard = none) {t u e : TypeId} (T : ElemT P t e (.int .u8 0) 1 1) (hu : P.underlying u = some .string) (s x : Operand)
    (ho : o.op = .call { callee := .builtin .append, args := #[s, x], argTypes := #[t, u] }) {base : Nat} {v : Value} {xs ys : List UInt8} (hs : a.eval s = v) (hown : Rep.u8.own e w base (fun _ => False) v xs)
    (hx : a.eval x = .string ⟨ys.toArray⟩) (hbytes : xs.length + ys.length ≤ 140737488355328) (hbase : base ≤ w.heap.size)
    (h : ∀ v' w', Rep.u8.own e w' base (fun _ => False) v' (xs ++ ys) → w.grownBy w' v.ownBlock → K (a.put o.dst v') w') : if Region.wanted o (yielded ops a.tmps) = true then Oper.wp P o a w K Q else E := by
  have hw : Region.wanted o (yielded ops a.tmps) = true := by simp [Region.wanted, hgd]
  rw [if_pos hw]
  exact wp_appT T hu s x ho hs hown hx hbytes hbase h

/-- 'string(b)'. -/
theorem conv_bs {src e dst : TypeId} (hs : P.underlying src = some (.slice e)) (he : P.underlying e = some (.int .u8)) (hd : P.underlying dst = some .string) {A : Option Addr} {n c : Nat} {bs : List UInt8} (h : Rep.u8.sl w S A n c bs) :
    (convert src dst (.slice A n c)).run P w = .ok (.string ⟨bs.toArray⟩) w := by
  rcases Nat.eq_zero_or_pos n with hn | hn
  · have : bs = [] := List.eq_nil_of_length_eq_zero (by rw [h.1, hn])
    subst this
    subst hn
    cases A with
    | none => exact run_convert_bytes_nil w src e hs he 0 c dst hd
    | some ad =>
      rw [run_convert_bytes_string w src dst e _ 0 c hs he hd, run_bytesToString w _ 0 c [] (by simp [loadCells, loadCellsFrom])]
      rfl
  · obtain ⟨b, o, rfl, hb, hr⟩ := h.2.2.2 hn
    have hl := h.1
    rw [run_convert_bytes_arg w src e hs he b o n c (bs.map fun x => (x.toNat : Int)) (by simpa using hl) (fun i hi => by
      obtain ⟨es, he, hc⟩ := hr i bs[i] (List.getElem?_eq_getElem (by omega))
      obtain rfl : es = [.int .u8 (bs[i].toNat : Int)] := he
      have := hc 0 _ rfl
      simp only [Rep.u8, Nat.mul_one, Nat.add_zero] at this
      rw [this]
      simp [List.getD, show i < bs.length by omega]) dst hd]
    congr 2
    simp only [strOfNums, List.map_map]
    congr 2
    refine (List.map_congr_left fun x _ => ?_).trans (List.map_id bs)
    simp
end
end Go.Proofs.YtdakeodebgggfaaDoor
