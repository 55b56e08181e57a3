/- The program puts a value's bytes; what is yet to be put. -/
import Derived.Test.YtdakeodebgggfaaDoorTm
namespace Go.Proofs.YtdakeodebgggfaaDoor
open Go.RowKit
set_option linter.unusedVariables false
set_option linter.unusedSimpArgs false

/-- A row's block is what it was, or new. -/
def Fresh (w : World) (v v' : Value) : Prop := ∀ k, v'.ownBlock = some k → v.ownBlock = some k ∨ w.heap.size ≤ k
theorem Fresh.of {w : World} {v v' : Value} (h : v'.ownBlock = v.ownBlock ∨ v'.ownBlock = some w.heap.size) : Fresh w v v' := fun k hk => by
  rcases h with h | h
  · exact .inl (h ▸ hk)
  · rw [h] at hk
    injection hk with hk
    exact .inr (by omega)
theorem Fresh.refl (w : World) (v : Value) : Fresh w v v := fun k hk => .inl hk
theorem Fresh.trans {w w1 : World} {v v1 v2 : Value} (h : Fresh w v v1) (hs : w.heap.size ≤ w1.heap.size) (k : Fresh w1 v1 v2) : Fresh w v v2 := fun b hb => by
  rcases k b hb with h1 | h1
  · exact h b h1
  · exact .inr (by omega)
theorem grown_chain {w w1 w2 : World} {v v1 : Value} (h : w.grownBy w1 v.ownBlock) (hf : Fresh w v v1) (h2 : w1.grownBy w2 v1.ownBlock) : w.grownBy w2 v.ownBlock :=
  ⟨h2.os.trans h.os, h2.tape.trans h.tape, h2.output.trans h.output, Nat.le_trans h.size h2.size, fun i hi hr => (h2.block i (Nat.lt_of_lt_of_le hi h.size) (fun e => by
    rcases hf i e.symm with h1 | h1
    · exact hr h1.symm
    · omega)).trans (h.block i hi hr)⟩
section
variable {P : Program} {w w' : World} {ops : Array Oper} {rest : List Oper} {o : Oper} {a : Act} {Q : Exit → Act → World → Prop}
theorem appT_fresh {t u e : TypeId} (T : ElemT P t e (.int .u8 0) 1 1) (hu : P.underlying u = some .string) (ty : TypeId) {base n : Nat} {v v' : Value} {xs : List Value} (hown : w.ownsRow base e 1 v n xs) (s : ByteArray)
    (hbytes : n + s.size ≤ 140737488355328) (hrun : (Builtin.append_ #[t, u] ty #[v, .string s]).run P w = .ok v' w') : Fresh w v v' := by
  obtain ⟨i, hi, hz, hsz, hb⟩ := info_parts T.info
  rcases hown.2 with ⟨rfl, rfl⟩ | ⟨g, cap, cur, rfl, hbg, hg, hnc, hcm, hcs, htake⟩
  · have hx : xs = [] := List.eq_nil_of_length_eq_zero (by simpa using hown.1)
    subst hx
    obtain ⟨v2, w2, hr2, h2, _, _⟩ := Lib.run_append_own_string (P := P) w w.heap.size t u ty e i T.und hu hi hz hsz hb (.slice none 0 0) 0 [] (World.ownsRow_nil w _ e 1) s (by simp only [maxLen]; omega) hbytes (Nat.le_refl _)
    have := hrun.symm.trans hr2
    injection this with e1 e2
    subst e1 e2
    exact fun k hk => .inr (h2.lt k hk).1
  · have hxl : xs.length = n := by simpa using hown.1
    by_cases hroom : n + s.size ≤ cap
    · have hr := Lib.run_append_room_string (P := P) w t u ty e i T.und hu hi hsz g n cap cur hg s hroom (by omega)
      have := hrun.symm.trans hr
      injection this with e1 e2
      subst e1
      exact fun k hk => .inl hk
    · have holds : ∀ j u, xs[j]? = some u → w.cell? ((⟨g, 0, none⟩ : Addr).add j) = some u := hown.cells (g := g) rfl
      have hr := Lib.run_append_grow_string (P := P) w t u ty e i (.int .u8 0) T.und hu hi hz ⟨g, 0, none⟩ n cap xs (by rw [hsz]; simpa using hxl) holds s (by omega) (by omega) (by rw [hb]; exact growslice_fits (by omega) (by omega))
      have := hrun.symm.trans hr
      injection this with e1 e2
      subst e1
      intro k hk
      simp [Value.ownBlock] at hk
      exact .inr (by omega)
theorem wpList_appT2 (hgd : o.guard = none) {t u e : TypeId} (T : ElemT P t e (.int .u8 0) 1 1) (hu : P.underlying u = some .string) (s x : Operand)
    (ho : o.op = .call { callee := .builtin .append, args := #[s, x], argTypes := #[t, u] }) {base : Nat} {v : Value} {xs ys : List UInt8} (hs : a.eval s = v) (hown : Rep.u8.own e w base (fun _ => False) v xs)
    (hx : a.eval x = .string ⟨ys.toArray⟩) (hbytes : xs.length + ys.length ≤ 140737488355328) (hbase : base ≤ w.heap.size)
    (h : ∀ v' w', Rep.u8.own e w' base (fun _ => False) v' (xs ++ ys) → w.grownBy w' v.ownBlock → Fresh w v v' → wpList P ops Q rest (a.put o.dst v') w') : wpList P ops Q (o :: rest) a w :=
  wpList_plain hgd fun _ hK => by
    obtain ⟨i, hi, hz, hsz, hb⟩ := info_parts T.info
    obtain ⟨cells, hc, hr⟩ := hown
    have hl : ByteArray.size ⟨ys.toArray⟩ = ys.length := by simp [ByteArray.size]
    obtain ⟨v', w', hrun, h2, h3, _⟩ := Lib.run_append_own_string (P := P) w base t u o.type e i T.und hu hi hz hsz hb v _ cells hc ⟨ys.toArray⟩ (by rw [hl]; simp only [maxLen]; omega) (by rw [hl]; exact hbytes) hbase
    have hf := appT_fresh T hu o.type hc ⟨ys.toArray⟩ (by rw [hl]; exact hbytes) hrun
    unfold Oper.wp execOp
    simp only [ho, resolve, invoke, builtin, Sem.run_bind, Sem.run_pure, Result.andThen_ok, List.map_toArray, List.map_cons, List.map_nil, hs, hx, hrun]
    rw [hl] at h2
    exact hK _ _ (h v' w' (own_snoc (r := Rep.u8) h2 hc.1 rfl hr (fun i x hi => by
      show _ = _
      have : i < ys.length := (List.getElem?_eq_some_iff.1 hi).1
      rw [show Rep.u8.size = 1 from rfl, Nat.mul_one, List.take_one, List.head?_drop, Lib.strCells]
      simp [hi]) h3 (fun _ h => h.elim)) h3 hf)
end
/-- How a call leaves a row that it was handed to append to. -/
def GrowPost (w : World) (base : Nat) (v : Value) (xs : List UInt8) (en : Ending) (w' : World) : Prop :=
  ∃ v', en = .returned v' ∧ Rep.u8.own 5 w' base (fun _ => False) v' xs ∧ w.grownBy w' v.ownBlock ∧ Fresh w v v'

set_option maxHeartbeats 1000000 in
set_option maxRecDepth 100000 in
theorem sxput1_c (xs ys : List UInt8) (v : Value) (A : Option Addr) (n c : Nat) (w : World) (base : Nat) (ho : Rep.u8.own 5 w base (fun _ => False) v xs) (hs : Rep.u8.sl w (fun b => b < base) A n c ys) (hb : base ≤ w.heap.size) (hT : Tabs base w)
    (hx : xs.length ≤ 1000000000) (hn : n ≤ 10000000) :
    Calls Tryd.prog 55 #[v, .slice A n c] w (GrowPost w base v (xs ++ textB ys)) := by
  have HO := Lib.hid ho
  have HS := Lib.hid hs
  have HB := Lib.hid hb
  have HT := Lib.hid hT
  have HX := Lib.hid hx
  have HD : Hid (xs ++ dec n ++ [58] ++ ys = xs ++ textB ys) := by show _ = _; rw [textB, hs.1]; simp only [List.append_assoc]
  have HL : Hid ((dec n).length ≤ 20) := dec_len 19 (by simp only [Nat.reduceAdd, Nat.reducePow]; omega)
  clear ho hs hb hT hx
  go_enter Tryd.func55, Tryd.ntmps55
  go_wp2_with fail
  refine Calls.mono (putlen_c n _ base HT.out (by omega)) ?_
  rintro e w1 ⟨rfl, hB1⟩
  have ho1 := Rep.own_later HO.out hB1
  have hz1 : base ≤ w1.heap.size := Nat.le_trans HB.out hB1.size
  have HG1 := Lib.hid (grownBy_of_below hB1 v.ownBlock)
  have HB1 := Lib.hid (hB1.mono HB.out)
  clear hB1
  generalize dec n = D at *
  go_wp2_with (at_builtin; refine halt ?_)
  refine go_on (wpList_appT2 rfl TB Tryd.underlying9 _ _ rfl (by rfl) ho1 (by rfl) (by have := HL.out; have := HX.out; omega) hz1 ?_)
  intro v2 w2 ho2 hg2 hf2
  have HB2 := Lib.hid (HB1.out.grown hg2 hz1 fun k hk => (Rep.own_lt ho1 k hk).1)
  have hz2 := Nat.le_trans hz1 hg2.size
  have HF2 : Hid (Fresh w v v2) := (Fresh.refl w v).trans HG1.out.size hf2
  have HG2 : Hid (w.grownBy w2 v.ownBlock) := grown_chain HG1.out (Fresh.refl w v) hg2
  clear ho1 hg2 hf2 HB1 HG1
  go_wp2_with (at_builtin; refine halt ?_)
  refine go_on (wpList_app1 rfl TB _ _ rfl (by rfl) (Rep.own_alloc ho2 _ (fun _ (h : False) => h.elim)) [_] 58 rfl (cell_one_new _ _ _) (rd_u8 rfl) (by have := HL.out; have := HX.out; simp only [List.length_append]; omega) (by have := HL.out; have := HX.out; simp only [List.length_append]; omega) (by simp only [World.size_alloc]; omega) (fun _ (h : False) => h.elim) ?_)
  intro v3 w3 ho3 hg3 hf3
  have HF3 := Lib.hid (HF2.out.trans (by have := HG2.out.size; simp only [World.size_alloc]; omega) (Fresh.of hf3))
  have HG3 := Lib.hid (grown_chain (grownBy_alloc HG2.out _) HF2.out hg3)
  have HB3 := Lib.hid ((HB2.out.alloc hz2 _).grown hg3 (by simp only [World.size_alloc]; omega) fun k hk => (Rep.own_lt ho2 k hk).1)
  have hz3 : base ≤ w3.heap.size := Nat.le_trans hz2 (Nat.le_trans (by simp only [World.size_alloc]; omega) hg3.size)
  have hs3 := Rep.sl_below HS.out HB3.out fun _ h => h
  clear ho2 hg3 hf3 HB2 HG2 HF2
  go_wp2_with (at_builtin; refine halt ?_)
  refine go_on (wpList_appF rfl flat_u8 TB _ _ rfl (by rfl) ho3 (by rfl) hs3 (by have := HL.out; have := HX.out; simp only [List.length_append, List.length_singleton]; omega) (by have := HL.out; have := HX.out; simp only [List.length_append, List.length_singleton]; omega) hz3 (fun _ (h : False) => h.elim) ?_)
  intro v4 w4 ho4 hg4 hf4
  have HF4 := Lib.hid (HF3.out.trans (HG3.out.size) (Fresh.of hf4))
  have HG4 := Lib.hid (grown_chain HG3.out HF3.out hg4)
  rw [HD.out] at ho4
  have HO4 := Lib.hid ho4
  clear ho3 hg4 hf4 ho4 hs3
  go_wp2
  go_ret
  exact ⟨v4, rfl, HO4.out, HG4.out, HF4.out⟩

/-- What is to be put yet: a value, or the end of a list. -/
def Rep.item : Rep (Option Tree) where
  size := 1
  pos := by omega
  rd := fun w S cs x => match x with
    | none => cs = [.pointer none]
    | some t => ∃ b o A1 n1 c1 A2 n2 c2 A3 n3 c3, cs = [.pointer (some ⟨b, o, none⟩)] ∧ S b ∧ Parts w S t A1 n1 c1 A2 n2 c2 A3 n3 c3 ∧ w.cell? ⟨b, o, none⟩ = some (.bool t.list) ∧ w.cell? ⟨b, o + 1, none⟩ = some (.bool t.hinted) ∧
        w.cell? ⟨b, o + 2, none⟩ = some (.slice A1 n1 c1) ∧ w.cell? ⟨b, o + 3, none⟩ = some (.slice A2 n2 c2) ∧ w.cell? ⟨b, o + 4, none⟩ = some (.slice A3 n3 c3)
  len := fun {w S cs x} h => by
    cases x with
    | none => rw [show cs = [.pointer none] from h]; rfl
    | some t => obtain ⟨_, _, _, _, _, _, _, _, _, _, _, rfl, _⟩ := h; rfl
  keep := fun {w w' S cs x} h hk => by
    cases x with
    | none => exact h
    | some t =>
      obtain ⟨b, o, A1, n1, c1, A2, n2, c2, A3, n3, c3, rfl, hb, hp, h0, h1, h2, h3, h4⟩ := h
      exact ⟨b, o, A1, n1, c1, A2, n2, c2, A3, n3, c3, rfl, hb, ⟨Rep.sl_keep hp.1 hk, Rep.sl_keep hp.2.1 hk, Rep.sl_keep hp.2.2 hk⟩, (hk _ hb).trans h0, (hk _ hb).trans h1, (hk _ hb).trans h2, (hk _ hb).trans h3, (hk _ hb).trans h4⟩
  more := fun {w S S' cs x} h hS => by
    cases x with
    | none => exact h
    | some t =>
      obtain ⟨b, o, A1, n1, c1, A2, n2, c2, A3, n3, c3, rfl, hb, hp, h0, h1, h2, h3, h4⟩ := h
      exact ⟨b, o, A1, n1, c1, A2, n2, c2, A3, n3, c3, rfl, hS _ hb, ⟨Rep.sl_more hp.1 hS, Rep.sl_more hp.2.1 hS, Rep.sl_more hp.2.2 hS⟩, h0, h1, h2, h3, h4⟩
  one := fun {w S cs x} h u hu => by
    cases x with
    | none =>
      rw [show cs = [.pointer none] from h] at hu
      simp at hu
      subst hu
      rfl
    | some t =>
      obtain ⟨b, o, _, _, _, _, _, _, _, _, _, rfl, _⟩ := h
      simp at hu
      subst hu
      rfl
def itemF : Option Tree → List UInt8
  | none => [41]
  | some t => t.form
/-- What the rest comes to. -/
def restF (l : List (Option Tree)) : List UInt8 := (l.reverse.map itemF).flatten
theorem restF_snoc (l : List (Option Tree)) (x : Option Tree) : restF (l ++ [x]) = itemF x ++ restF l := by simp [restF]
theorem restF_app (l m : List (Option Tree)) : restF (l ++ m) = restF m ++ restF l := by simp [restF]
theorem restF_kids (l : List Tree) : restF (l.reverse.map some) = (l.map Tree.form).flatten := by
  simp [restF, List.map_map]
  congr 1
theorem textB_pos (b : List UInt8) : b.length + 2 ≤ (textB b).length := by
  have := dec_pos b.length
  simp only [textB, List.length_append, List.length_singleton]
  omega
theorem Tree.form_pos (t : Tree) : 2 ≤ t.form.length := by
  rw [Tree.form_eq]
  split
  · simp only [List.length_append, List.length_singleton]; omega
  · have := textB_pos t.data
    rw [Tree.atomF, List.length_append]
    omega
theorem itemF_pos (x : Option Tree) : 1 ≤ (itemF x).length := by
  cases x with
  | none => simp [itemF]
  | some t => have := t.form_pos; simp only [itemF]; omega
theorem restF_len (l : List (Option Tree)) : l.length ≤ (restF l).length := by
  have : ∀ l : List (Option Tree), l.length ≤ (l.map itemF).flatten.length := by
    intro l
    induction l with
    | nil => simp
    | cons x l ih =>
      have := itemF_pos x
      simp only [List.map_cons, List.flatten_cons, List.length_append, List.length_cons]
      omega
  have := this l.reverse
  simpa [restF] using this
theorem kids_len (t : Tree) (h : t.list = true) : t.kids.length + 2 ≤ t.form.length := by
  rw [form_list h]
  have : ∀ l : List Tree, l.length ≤ (l.map Tree.form).flatten.length := by
    intro l
    induction l with
    | nil => simp
    | cons x l ih =>
      have := x.form_pos
      simp only [List.map_cons, List.flatten_cons, List.length_append, List.length_cons]
      omega
  have := this t.kids
  omega
/-- A row's front is owned as the row was. -/
theorem Rep.own_front {α : Type} {r : Rep α} {e : TypeId} {w : World} {base : Nat} {S : Nat → Prop} {A : Option Addr} {n c k : Nat} {xs : List α} (h : r.own e w base S (.slice A n c) xs) (hk : k ≤ xs.length) : r.own e w base S (.slice A k c) (xs.take k) := by
  obtain ⟨cells, ho, hr⟩ := h
  refine ⟨cells.take (k * r.size), ⟨?_, ?_⟩, fun i x hx => ?_⟩
  · have := ho.1
    rw [List.length_take, List.length_take, this, Nat.min_eq_left hk, Nat.min_eq_left (Nat.mul_le_mul_right _ hk)]
  · rcases ho.2 with ⟨e1, hn⟩ | ⟨g, cap, cur, e1, hb, hg, h1, h2, h3, h4⟩
    · injection e1 with e1 e2 e3
      subst e1 e2 e3
      have : k = 0 := by omega
      subst this
      exact .inl ⟨rfl, by simp⟩
    · injection e1 with e1 e2 e3
      subst e1 e2 e3
      refine .inr ⟨g, c, cur, by rw [List.length_take, Nat.min_eq_left hk], hb, hg, by rw [List.length_take]; omega, h2, h3, ?_⟩
      rw [List.length_take, Nat.min_eq_left hk, ← h4, List.take_take, Nat.min_eq_left (Nat.mul_le_mul_right _ hk)]
  · rw [List.getElem?_take] at hx
    split at hx
    · rename_i hi
      have := hr i x hx
      rw [List.drop_take, List.take_take, Nat.min_eq_left]
      · exact this
      · rw [← Nat.sub_mul]
        exact Nat.le_mul_of_pos_left _ (by omega)
    · cases hx
section
variable {P : Program} {w w' : World} {o : Oper} {a : Act} {Q : Exit → Act → World → Prop}
theorem wp_app1 {K : Act → World → Prop} {α : Type} {r : Rep α} {S : Nat → Prop} {t e : TypeId} {z : Value} {bytes : Nat} (T : ElemT P t e z r.size bytes) (s x : Operand)
    (ho : o.op = .call { callee := .builtin .append, args := #[s, x], argTypes := #[t, t] }) {base : Nat} {v : Value} {xs : List α} (hs : a.eval s = v) (hown : r.own e w base S v xs)
    {ad : Addr} {c : Nat} (news : List Value) (y : α) (hx : a.eval x = .slice (some ad) 1 c) (hA : ∀ j u, news[j]? = some u → w.cell? (ad.add j) = some u) (hy : r.rd w S news y)
    (hbytes : (xs.length + 1) * bytes ≤ 140737488355328) (h63 : xs.length + 1 ≤ 9223372036854775807) (hbase : base ≤ w.heap.size) (hS : ∀ b, S b → b < w.heap.size ∧ some b ≠ v.ownBlock)
    (h : ∀ v' w', r.own e w' base S v' (xs ++ [y]) → w.grownBy w' v.ownBlock → (v'.ownBlock = v.ownBlock ∨ v'.ownBlock = some w.heap.size) → K (a.put o.dst v') w') : o.wp P a w K Q :=
  wp_app T s x ho hs hown (A := some ad) (m := 1) (c := c) news (ys := [y]) hx (by rw [r.len hy]; omega) (fun _ => ⟨ad, rfl, hA⟩) (r.one hy) rfl
    (fun i x hi => by
      cases i with
      | zero =>
        simp at hi
        subst hi
        rw [Nat.zero_mul, List.drop_zero, List.take_of_length_le (by rw [r.len hy]; exact Nat.le_refl _)]
        exact hy
      | succ i => simp at hi) hbytes h63 hbase hS h
end
/-- Rows of different types of elements are apart. -/
theorem own_apart {α β : Type} {r : Rep α} {r' : Rep β} {e e' : TypeId} {w : World} {base base' : Nat} {S S' : Nat → Prop} {v v' : Value} {xs : List α} {ys : List β} (h : r.own e w base S v xs) (h' : r'.own e' w base' S' v' ys) (hne : e ≠ e') : v.ownBlock = none ∨ v.ownBlock ≠ v'.ownBlock := by
  obtain ⟨cells, ho, _⟩ := h
  rcases ho.2 with ⟨rfl, _⟩ | ⟨g, cap, cur, rfl, _, hg, _⟩
  · exact .inl rfl
  · exact .inr (own_blk h' hg hne.symm)
theorem item_kept {w w2 : World} {base : Nat} {ox tx : Value} {xs : List UInt8} {l : List (Option Tree)} {eP : TypeId} (HI : Rep.item.own eP w base (fun b => b < base) tx l) (HO : Rep.u8.own 5 w base (fun _ => False) ox xs) (hg : w.grownBy w2 ox.ownBlock) (hb : base ≤ w.heap.size) (hne : eP ≠ 5) :
    Rep.item.own eP w2 base (fun b => b < base) tx l :=
  Rep.own_kept HI hg (own_apart HI HO hne) fun b hb' => ⟨by omega, fun e => by have := (Rep.own_lt HO b e.symm).1; omega⟩
theorem u8_kept {w w2 : World} {base : Nat} {ox tx : Value} {xs : List UInt8} {l : List (Option Tree)} {eP : TypeId} (HI : Rep.item.own eP w base (fun b => b < base) tx l) (HO : Rep.u8.own 5 w base (fun _ => False) ox xs) (hg : w.grownBy w2 tx.ownBlock) (hne : eP ≠ 5) :
    Rep.u8.own 5 w2 base (fun _ => False) ox xs :=
  Rep.own_kept HO hg (own_apart HO HI hne.symm) fun _ (h : False) => h.elim
theorem item_later {w w2 : World} {base : Nat} {tx : Value} {l : List (Option Tree)} {eP : TypeId} (HI : Rep.item.own eP w base (fun b => b < base) tx l) (hB : Below w.heap.size w w2) (hb : base ≤ w.heap.size) : Rep.item.own eP w2 base (fun b => b < base) tx l :=
  Rep.own_kept (row := none) HI (grownBy_of_below hB none) (by cases hv : tx.ownBlock <;> simp) fun b hb' => ⟨by omega, by simp⟩
theorem own_at {α : Type} {r : Rep α} {e : TypeId} {w : World} {base : Nat} {S : Nat → Prop} {A : Option Addr} {n c k : Nat} {xs : List α} {x : α} (h : r.own e w base S (.slice A n c) xs) (hx : xs[k]? = some x) :
    ∃ g es, A = some ⟨g, 0, none⟩ ∧ base ≤ g ∧ n ≤ c ∧ c ≤ 9223372036854775807 ∧ r.rd w S es x ∧ ∀ j u, es[j]? = some u → w.cell? ⟨g, k * r.size + j, none⟩ = some u := by
  obtain ⟨cells, ho, hr⟩ := h
  have hk := (List.getElem?_eq_some_iff.1 hx).1
  rcases ho.2 with ⟨e1, hn⟩ | ⟨g, cap, cur, e1, hb, hg, h1, h2, h3, h4⟩
  · omega
  · injection e1 with e1 e2 e3
    subst e1 e2 e3
    refine ⟨g, _, rfl, hb, h1, by simpa [maxLen] using h2, hr k x hx, fun j u hu => ?_⟩
    have hl := r.len (hr k x hx)
    have hj : j < r.size := by
      have := (List.getElem?_eq_some_iff.1 hu).1
      omega
    rw [List.getElem?_take, if_pos hj, List.getElem?_drop] at hu
    have := ho.cells (g := g) rfl _ u hu
    rw [Addr.add_lit] at this
    rw [← this]
    congr 2
    omega
def lenV : Value → Nat
  | .slice _ n _ => n
  | _ => 0
theorem own_lenV {α : Type} {r : Rep α} {e : TypeId} {w : World} {base : Nat} {S : Nat → Prop} {v : Value} {xs : List α} (h : r.own e w base S v xs) : lenV v = xs.length := by
  obtain ⟨A, c, rfl, _⟩ := Rep.own_sl h
  rfl
end Go.Proofs.YtdakeodebgggfaaDoor
