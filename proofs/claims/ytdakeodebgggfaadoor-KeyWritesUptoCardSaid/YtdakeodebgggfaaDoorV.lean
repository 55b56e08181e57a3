/- More words for memory. -/
import Derived.Test.YtdakeodebgggfaaDoorW
import Derived.Lib.ConvBytes
namespace Go.Proofs.YtdakeodebgggfaaDoor
open Go.RowKit
set_option linter.unusedVariables false

section
variable {α : Type} {w w' : World} {S : Nat → Prop}
/-- A block that is known whole reads as a slice. -/
theorem sl_box {r : Rep α} {g : Nat} {cs : Array Value} {t : TypeId} {xs : List α} {n c : Nat} (h : w.heap[g]? = some (.cells cs t (0, 0))) (hg : S g) (hn : xs.length = n) (hc : n ≤ c) (hm : c ≤ 9223372036854775807)
    (hr : ∀ i x, xs[i]? = some x → r.rd w S ((cs.toList.drop (i * r.size)).take r.size) x) : r.sl w S (some ⟨g, 0, none⟩) n c xs := by
  refine ⟨hn, hc, hm, fun _ => ⟨g, 0, rfl, hg, fun i x hx => ⟨_, hr i x hx, fun j u hu => ?_⟩⟩⟩
  have hj : j < r.size := by
    have := (List.getElem?_eq_some_iff.1 hu).1
    rw [r.len (hr i x hx)] at this
    exact this
  rw [List.getElem?_take, if_pos hj, List.getElem?_drop] at hu
  rw [Nat.zero_add]
  exact boxed h _ _ hu

theorem box_set {g j : Nat} {cs : Array Value} {t : TypeId} (h : w.heap[g]? = some (.cells cs t (0, 0))) (u : Value) : (w.setCell ⟨g, j, none⟩ u).heap[g]? = some (.cells (cs.setIfInBounds j u) t (0, 0)) := by
  simp [World.setCell, Array.getElem?_modify, h]
theorem box_cells {g : Nat} {cs : Array Value} {t : TypeId} (h : w.heap[g]? = some (.cells cs t (0, 0))) : ∀ j u, cs.toList[j]? = some u → w.cell? ((⟨g, 0, none⟩ : Addr).add j) = some u := by
  intro j u hu
  rw [Addr.add_lit, Nat.zero_add]
  exact boxed h j u hu
theorem cell_far {p q : Addr} {u : Value} (h : q.block ≠ p.block) : (w.setCell p u).cell? q = w.cell? q := World.cell?_of_block (Below.heap_setCell w p u q.block h)
theorem Rep.sl_setFar {r : Rep α} {A : Option Addr} {n c g j : Nat} {xs : List α} {u : Value} (h : r.sl w S A n c xs) (hS : ∀ b, S b → b ≠ g) : r.sl (w.setCell ⟨g, j, none⟩ u) S A n c xs := r.sl_keep h fun p hp => cell_far (hS _ hp)
theorem box_far {g : Nat} {x : Obj} {p : Addr} (h : w.heap[g]? = some x) (hp : g ≠ p.block) (u : Value) : (w.setCell p u).heap[g]? = some x := (Below.heap_setCell w p u g hp).trans h
theorem grownBy_set {a : World} {g j : Nat} (h : a.grownBy w (some g)) (u : Value) : a.grownBy (w.setCell ⟨g, j, none⟩ u) (some g) :=
  ⟨h.os, h.tape, h.output, by simpa [World.setCell] using h.size, fun i hi hr => (Below.heap_setCell w _ u i (by rintro rfl; exact hr rfl)).trans (h.block i hi hr)⟩
theorem grownBy_of_below {a : World} (h : Below a.heap.size a w) (row : Option Nat) : a.grownBy w row := ⟨h.os, h.tape, h.output, h.size, fun k hk _ => h.block k hk⟩
theorem grownBy_any {a : World} (h : a.grownBy w none) (row : Option Nat) : a.grownBy w row := ⟨h.os, h.tape, h.output, h.size, fun k hk _ => h.block k hk (by simp)⟩
theorem own_in {r : Rep α} {e : TypeId} {base R : Nat} {v : Value} {xs : List α} (h : r.own e w base (fun _ => False) v xs) (hR : R < base) : ∀ b, (False ∨ v.ownBlock = some b) → b < w.heap.size ∧ some b ≠ some R := by
  rintro b (hb | hb)
  · exact hb.elim
  · have hh := Rep.own_lt h _ hb
    exact ⟨hh.2, fun e => by injection e; omega⟩
theorem own_in2 {r : Rep α} {e : TypeId} {base g N : Nat} {v : Value} {xs : List α} (h : r.own e w base (fun _ => False) v xs) (hN : w.heap.size ≤ N) (hR : g < base) : ∀ b, (False ∨ v.ownBlock = some b) → b < N ∧ b ≠ g := by
  rintro b (hb | hb)
  · exact hb.elim
  · have hh := Rep.own_lt h _ hb
    exact ⟨by omega, by omega⟩
theorem own_in3 {r : Rep α} {e : TypeId} {base M N : Nat} {v : Value} {xs : List α} (h : r.own e w base (fun _ => False) v xs) (hN : w.heap.size ≤ N) (hR : M ≤ base) : ∀ b, (False ∨ v.ownBlock = some b) → M ≤ b ∧ b < N := by
  rintro b (hb | hb)
  · exact hb.elim
  · have hh := Rep.own_lt h _ hb
    exact ⟨by omega, by omega⟩
theorem grownBy_new {a : World} {row : Option Nat} (h : a.grownBy w row) {p : Addr} (hp : a.heap.size ≤ p.block) (u : Value) : a.grownBy (w.setCell p u) row :=
  ⟨h.os, h.tape, h.output, by simpa [World.setCell] using h.size, fun i hi hr => (Below.heap_setCell w p u i (by omega)).trans (h.block i hi hr)⟩
theorem grownBy_own {a : World} {row row' : Option Nat} (h : a.grownBy w row) (hg : w.grownBy w' row') (hr : ∀ k, row' = some k → a.heap.size ≤ k) : a.grownBy w' row :=
  ⟨hg.os.trans h.os, hg.tape.trans h.tape, hg.output.trans h.output, Nat.le_trans h.size hg.size, fun k hk hne => (hg.block k (Nat.lt_of_lt_of_le hk h.size) (fun e => by have := hr k e.symm; omega)).trans (h.block k hk hne)⟩
theorem grownBy_alloc {a : World} {row : Option Nat} (h : a.grownBy w row) (o : Obj) : a.grownBy (w.alloc o) row := grownBy_trans h (World.grownBy_alloc w o row)
theorem Rep.own_setFar {r : Rep α} {e : TypeId} {base : Nat} {v : Value} {xs : List α} {p : Addr} {u : Value} (h : r.own e w base (fun _ => False) v xs) (hp : some p.block ≠ v.ownBlock) : r.own e (w.setCell p u) base (fun _ => False) v xs :=
  r.own_kept (row := some p.block) h ⟨rfl, rfl, rfl, by simp [World.setCell], fun k _ hk => Below.heap_setCell w p u k (by rintro rfl; exact hk rfl)⟩ (.inr (Ne.symm hp)) fun _ h => h.elim
theorem grownBy_drew {a : World} {row : Option Nat} (h : a.grownBy w row) : a.grownBy w.drew row := ⟨h.os, h.tape, h.output, h.size, h.block⟩

theorem own_flat {r : Rep α} (hf : r.Flat) {S' : Nat → Prop} {e : TypeId} {base : Nat} {v : Value} {xs : List α} (h : r.own e w base S v xs) : r.own e w base S' v xs := by
  obtain ⟨cells, ho, hr⟩ := h
  exact ⟨cells, ho, fun i x hx => hf _ _ _ _ _ _ (hr i x hx)⟩
theorem sl_flat {r : Rep α} (hf : r.Flat) {S' : Nat → Prop} {A : Option Addr} {n c : Nat} {xs : List α} (h : r.sl w S A n c xs) (hS : ∀ b o, A = some ⟨b, o, none⟩ → 0 < n → S b → S' b) : r.sl w S' A n c xs :=
  ⟨h.1, h.2.1, h.2.2.1, fun hn => by
    obtain ⟨b, o, e, hb, hr⟩ := h.2.2.2 hn
    refine ⟨b, o, e, hS b o e hn hb, fun i x hx => ?_⟩
    obtain ⟨es, h1, h2⟩ := hr i x hx
    exact ⟨es, hf _ _ _ _ _ _ h1, h2⟩⟩
end

section
variable {α : Type} {P : Program} {w : World} {ops : Array Oper} {rest : List Oper} {o : Oper} {a : Act} {Q : Exit → Act → World → Prop}
/-- '[]byte(s)'. -/
theorem conv_sb {src dst e : TypeId} (hs : P.underlying src = some .string) (hd : P.underlying dst = some (.slice e)) (he : P.underlying e = some (.int .u8)) (w : World) (xs : List UInt8) (hx : xs.length ≤ 9223372036854775807) :
    ∃ A c w', (convert src dst (.string ⟨xs.toArray⟩)).run P w = .ok (.slice A xs.length c) w' ∧ Rep.u8.sl w' (fun b => b = w.heap.size) A xs.length c xs ∧ Below w.heap.size w w' := by
  have hl : ByteArray.size ⟨xs.toArray⟩ = xs.length := by simp [ByteArray.size]
  have hr := Lib.run_convert_string_bytes (P := P) w src dst e ⟨xs.toArray⟩ hs hd he
  rw [hl] at hr
  refine ⟨_, _, _, hr, ⟨rfl, grownCap_ge _ _ _ _, by have := grownCap_le_maxLen w xs.length 0 e (by simpa [maxLen] using hx); simpa [maxLen] using this, fun hn => ⟨_, 0, rfl, rfl, fun i x hi => ⟨[.int .u8 (x.toNat : Int)], rfl, fun j u hu => ?_⟩⟩⟩, ?_⟩
  · have hil : i < xs.length := (List.getElem?_eq_some_iff.1 hi).1
    cases j with
    | zero =>
      simp at hu
      subst hu
      have := Lib.bytesWorld_cell w e ⟨xs.toArray⟩ i (by rw [hl]; exact hil)
      rw [show Rep.u8.size = 1 from rfl, Nat.mul_one, Nat.zero_add, Nat.add_zero, this]
      simp [List.getD, hi]
    | succ j => simp at hu
  · refine ⟨?_, ?_, ?_, by rw [Lib.bytesWorld_size]; omega, fun k hk => Lib.bytesWorld_at_old w e _ k hk⟩
    all_goals
      unfold Lib.bytesWorld World.freeze
      split <;> rfl

/-- append of one element, at a step of a region that draws its order. -/
theorem step_app1 {S : Nat → Prop} {K : Act → World → Prop} {E : Prop} (hgd : o.guard = none) {r : Rep α} {t e : TypeId} {z : Value} {bytes : Nat} (T : ElemT P t e z r.size bytes) (s x : Operand)
    (ho : o.op = .call { callee := .builtin .append, args := #[s, x], argTypes := #[t, t] }) {base : Nat} {v : Value} {xs : List α} (hs : a.eval s = v) (hown : r.own e w base S v xs)
    {ad : Addr} {c : Nat} (news : List Value) (y : α) (hx : a.eval x = .slice (some ad) 1 c) (hA : ∀ j u, news[j]? = some u → w.cell? (ad.add j) = some u) (hy : r.rd w S news y)
    (hbytes : (xs.length + 1) * bytes ≤ 140737488355328) (h63 : xs.length + 1 ≤ 9223372036854775807) (hbase : base ≤ w.heap.size) (hS : ∀ b, S b → b < w.heap.size ∧ some b ≠ v.ownBlock)
    (h : ∀ v' w', r.own e w' base S v' (xs ++ [y]) → w.grownBy w' v.ownBlock → K (a.put o.dst v') w') : if Region.wanted o (yielded ops a.tmps) = true then Oper.wp P o a w K Q else E := by
  have hw : Region.wanted o (yielded ops a.tmps) = true := by simp [Region.wanted, hgd]
  rw [if_pos hw]
  exact wp_app T s x ho hs hown (A := some ad) (m := 1) (c := c) news (ys := [y]) hx (by rw [r.len hy]; omega) (fun _ => ⟨ad, rfl, hA⟩) (r.one hy) rfl (rd_one hy) hbytes h63 hbase hS fun v' w' h2 h3 _ => h v' w' h2 h3

/-- 'make([]T, n)': n zero elements are owned. -/
theorem wpList_makeR (hg : o.guard = none) {r : Rep α} {t e : TypeId} {z : Value} {bytes : Nat} (T : ElemT P t e z r.size bytes) (hz1 : r.size = 1) (l c : Operand) (hop : o.op = Op.makeSlice t l c)
    {base : Nat} (x0 : α) (n : Nat) {kl kc : IntKind} {L C : Int} (hl : a.eval l = .int kl L) (hc : a.eval c = .int kc C) (hL : L = (n : Int)) (hC : C = (n : Int)) (b2 : bytes * n ≤ 281474976710656) (b3 : n ≤ 9223372036854775807) (b4 : base ≤ w.heap.size)
    (hx : ∀ w', r.rd w' (fun _ => False) [z] x0) (hzc : z.cells = #[z])
    (hK : ∀ w', r.own e w' base (fun _ => False) (.slice (some ⟨w.heap.size, 0, none⟩) n n) (List.replicate n x0) → w.grownBy w' none → wpList P ops Q rest (a.put o.dst (.slice (some ⟨w.heap.size, 0, none⟩) n n)) w') :
    wpList P ops Q (o :: rest) a w := by
  obtain ⟨i, hi, hz, hs, hb⟩ := info_parts T.info
  subst hb
  refine wpList_make_full w hg l c t hop base e i z r.size T.und hi hz hs kl kc L C n hl hc hL hC b2 (by simpa [maxLen] using b3) b4 fun w' ho hgr => hK w' ⟨_, by rw [List.length_replicate]; exact ho, fun j x hj => ?_⟩ hgr
  rw [hz1, Nat.mul_one, Nat.mul_one, hzc, toList_madeCells_one]
  have hjn : j < n := by
    have := (List.getElem?_eq_some_iff.1 hj).1
    simpa using this
  simp [hjn] at hj
  subst hj
  rw [List.take_one, List.head?_drop]
  simp only [List.getElem?_replicate, hjn, if_true, Option.toList_some]
  exact hx w'
end

theorem or_high (x y k : Nat) (hy : y < 2 ^ k) : x * 2 ^ k ||| y = x * 2 ^ k + y := by
  rw [← Nat.shiftLeft_eq, Nat.shiftLeft_add_eq_or_of_lt hy]
theorem ofInt64 (a : Nat) (ha : a < 9223372036854775808) : (BitVec.ofInt 64 (a : Int)).toNat = a := by
  rw [BitVec.ofInt_natCast, BitVec.toNat_ofNat]
  exact Nat.mod_eq_of_lt (by omega)
theorem bits_or_i64 (a b : Nat) (ha : a < 9223372036854775808) (hb : b < 9223372036854775808) : bits .or .i64 (a : Int) (b : Int) = ((a ||| b : Nat) : Int) := by
  have hx : a ||| b < 2 ^ 63 := Nat.or_lt_two_pow (by omega) (by omega)
  show IntKind.i64.wrap ((BitVec.ofInt 64 (a : Int) ||| BitVec.ofInt 64 (b : Int)).toNat : Int) = _
  rw [BitVec.toNat_or, ofInt64 a ha, ofInt64 b hb, IntKind.wrap_i64]
  omega
theorem or_bytes (x y : Nat) (hx : x < 256) (hy : y < 256) : bits .or .i64 ((x : Int) * 256) (y : Int) = ((256 * x + y : Nat) : Int) := by
  have := bits_or_i64 (x * 2 ^ 8) y (by omega) (by omega)
  rw [or_high x y 8 (by omega)] at this
  rw [show (x : Int) * 256 = ((x * 2 ^ 8 : Nat) : Int) by omega, this]
  omega
end Go.Proofs.YtdakeodebgggfaaDoor
