/- Rows of bytes that the call may write, whatever marks their block bears; append onto them. -/
import Derived.Test.YtdakeodebgggfaaDoorV
import Derived.ArgAppend
namespace Go.Proofs.YtdakeodebgggfaaDoor
open Go.RowKit
set_option linter.unusedVariables false

/-- The cells of bytes. -/
def bl (xs : List UInt8) : List Value := xs.map fun x => Value.int .u8 (x.toNat : Int)
theorem bl_len (xs : List UInt8) : (bl xs).length = xs.length := by simp [bl]
theorem bl_app (xs ys : List UInt8) : bl (xs ++ ys) = bl xs ++ bl ys := by simp [bl]
theorem bl_one {xs : List UInt8} : ∀ u ∈ bl xs, u.oneCell' = true := by
  intro u hu
  obtain ⟨x, _, rfl⟩ := List.mem_map.1 hu
  rfl

/-- Bytes in a row of the call's own: they lie there, and what is behind them may be written. -/
def OwnB (w : World) (base : Nat) (v : Value) (xs : List UInt8) : Prop :=
  (v = .slice none 0 0 ∧ xs = []) ∨ ∃ g cap, v = .slice (some ⟨g, 0, none⟩) xs.length cap ∧ base ≤ g ∧ g < w.heap.size ∧ xs.length ≤ cap ∧ cap ≤ 9223372036854775807 ∧
    (∀ j u, (bl xs)[j]? = some u → w.cell? ⟨g, j, none⟩ = some u) ∧ ∀ j, j < cap → (w.cell? ⟨g, j, none⟩).isSome = true ∧ w.frozen? ⟨g, j, none⟩ = false

section
variable {P : Program} {w w' : World}
theorem OwnB.nil {base : Nat} : OwnB w base (.slice none 0 0) [] := .inl ⟨rfl, rfl⟩
theorem OwnB.lt {base : Nat} {v : Value} {xs : List UInt8} (h : OwnB w base v xs) : ∀ k, v.ownBlock = some k → base ≤ k ∧ k < w.heap.size := by
  rcases h with ⟨rfl, _⟩ | ⟨g, cap, rfl, hb, hg, _⟩
  · simp [Value.ownBlock]
  · intro k hk
    simp [Value.ownBlock] at hk
    subst hk
    exact ⟨hb, hg⟩
theorem OwnB.of_own {e : TypeId} {base : Nat} {S : Nat → Prop} {v : Value} {xs : List UInt8} (h : Rep.u8.own e w base S v xs) : OwnB w base v xs := by
  obtain ⟨cells, ho, hr⟩ := h
  rcases ho.2 with ⟨rfl, hn⟩ | ⟨g, cap, cur, rfl, hb, hg, hc1, hc2, hc3, hc4⟩
  · exact .inl ⟨rfl, List.eq_nil_of_length_eq_zero hn⟩
  · refine .inr ⟨g, cap, rfl, hb, (Array.getElem?_eq_some_iff.1 hg).1, hc1, by simpa [maxLen] using hc2, fun j u hu => ?_, fun j hj => ⟨?_, ?_⟩⟩
    · have hj : j < xs.length := by
        have := (List.getElem?_eq_some_iff.1 hu).1
        rwa [bl_len] at this
      have hx := hr j xs[j] (List.getElem?_eq_getElem hj)
      simp only [Rep.u8, Nat.mul_one] at hx
      have h0 : cells[j]? = some (.int .u8 (xs[j].toNat : Int)) := by
        have := congrArg (fun l => l[0]?) hx
        simpa [List.getElem?_take, List.getElem?_drop] using this
      have hu' : u = .int .u8 (xs[j].toNat : Int) := by
        simp [bl, List.getElem?_map, List.getElem?_eq_getElem hj] at hu
        exact hu.symm
      have := ho.cells (g := g) rfl j _ h0
      rw [Addr.add_lit, Nat.zero_add] at this
      rw [this, hu']
    · have hsz : j < cur.size := by rw [hc3]; simpa [Rep.u8] using hj
      rw [cell_of_row w g j cur e (0, 0) hg, Array.getElem?_eq_getElem hsz]
      rfl
    · exact boxed_frozen hg j
theorem OwnB.keep {base : Nat} {v : Value} {xs : List UInt8} (h : OwnB w base v xs) {row : Option Nat} (hg : w.grownBy w' row) (hne : v.ownBlock = none ∨ v.ownBlock ≠ row) : OwnB w' base v xs := by
  rcases h with ⟨rfl, rfl⟩ | ⟨g, cap, rfl, hb, hgl, h1, h2, h3, h4⟩
  · exact .nil
  · have hrow : some g ≠ row := by
      rcases hne with h | h
      · simp [Value.ownBlock] at h
      · simpa [Value.ownBlock] using h
    have hblk := hg.block g hgl hrow
    refine .inr ⟨g, cap, rfl, hb, Nat.lt_of_lt_of_le hgl hg.size, h1, h2, fun j u hu => ?_, fun j hj => ⟨?_, ?_⟩⟩
    · rw [World.cell?_of_block hblk]
      exact h3 j u hu
    · rw [World.cell?_of_block hblk]
      exact (h4 j hj).1
    · have : w'.frozen? ⟨g, j, none⟩ = w.frozen? ⟨g, j, none⟩ := by simp [World.frozen?, hblk]
      rw [this]
      exact (h4 j hj).2
theorem OwnB.later {base : Nat} {v : Value} {xs : List UInt8} (h : OwnB w base v xs) (hB : Below w.heap.size w w') : OwnB w' base v xs :=
  h.keep (row := none) ⟨hB.os, hB.tape, hB.output, hB.size, fun k hk _ => hB.block k hk⟩ (by cases hv : v.ownBlock <;> simp)
theorem OwnB.alloc {base : Nat} {v : Value} {xs : List UInt8} (h : OwnB w base v xs) (o : Obj) : OwnB (w.alloc o) base v xs := h.later (Below.alloc (Below.refl _ w) (Nat.le_refl _) o)
theorem OwnB.drew {base : Nat} {v : Value} {xs : List UInt8} (h : OwnB w base v xs) : OwnB w.drew base v xs := h.later (Below.refl _ w).drew
theorem OwnB.sl {base : Nat} {v : Value} {xs : List UInt8} (h : OwnB w base v xs) : ∃ A c, v = .slice A xs.length c ∧ Rep.u8.sl w (fun b => v.ownBlock = some b) A xs.length c xs := by
  rcases h with ⟨rfl, rfl⟩ | ⟨g, cap, rfl, hb, hgl, h1, h2, h3, h4⟩
  · exact ⟨none, 0, rfl, Rep.sl_nil⟩
  · refine ⟨_, cap, rfl, rfl, h1, h2, fun hn => ⟨g, 0, rfl, rfl, fun i x hx => ⟨[.int .u8 (x.toNat : Int)], rfl, fun j u hu => ?_⟩⟩⟩
    cases j with
    | zero =>
      simp at hu
      subst hu
      rw [show Rep.u8.size = 1 from rfl, Nat.mul_one, Nat.zero_add, Nat.add_zero]
      exact h3 i _ (by simp [bl, hx])
    | succ j => simp at hu
theorem OwnB.sl_all {base : Nat} {v : Value} {xs : List UInt8} (h : OwnB w base v xs) : ∃ A c, v = .slice A xs.length c ∧ Rep.u8.sl w (fun b => b < w.heap.size) A xs.length c xs := by
  have hl := h.lt
  obtain ⟨A, c, rfl, hs⟩ := h.sl
  exact ⟨A, c, rfl, Rep.sl_more hs fun b hb => (hl b hb).2⟩

/-- The bytes of a reading, as cells. -/
theorem sl_cells {S : Nat → Prop} {A : Option Addr} {m c : Nat} {ys : List UInt8} (h : Rep.u8.sl w S A m c ys) (hm : 0 < m) : ∃ ad, A = some ad ∧ ∀ j u, (bl ys)[j]? = some u → w.cell? (ad.add j) = some u := by
  obtain ⟨b, o, rfl, hb, hr⟩ := h.2.2.2 hm
  refine ⟨_, rfl, fun j u hu => ?_⟩
  have hj : j < ys.length := by
    have := (List.getElem?_eq_some_iff.1 hu).1
    rwa [bl_len] at this
  obtain ⟨es, he, hc⟩ := hr j ys[j] (List.getElem?_eq_getElem hj)
  obtain rfl : es = [.int .u8 (ys[j].toNat : Int)] := he
  have := hc 0 _ rfl
  simp only [Rep.u8, Nat.mul_one, Nat.add_zero] at this
  rw [Addr.add_lit, this]
  simp [bl, List.getElem?_map, List.getElem?_eq_getElem hj] at hu
  rw [hu]

/-- append onto a row of bytes that the call owns. -/
theorem run_appB {t e : TypeId} (T : ElemT P t e (.int .u8 0) 1 1) (ty : TypeId) {base : Nat} {v : Value} {xs ys : List UInt8} (h : OwnB w base v xs) {S : Nat → Prop} {A : Option Addr} {m c : Nat} (hs : Rep.u8.sl w S A m c ys)
    (hbytes : xs.length + m ≤ 140737488355328) (hbase : base ≤ w.heap.size) :
    ∃ v' w', (Builtin.append_ #[t, t] ty #[v, .slice A m c]).run P w = .ok v' w' ∧ OwnB w' base v' (xs ++ ys) ∧ w.grownBy w' v.ownBlock := by
  obtain ⟨i, hi, hz, hsz, hb⟩ := info_parts T.info
  have hm := hs.1
  rcases Nat.eq_zero_or_pos m with h0 | h0
  · have : ys = [] := List.eq_nil_of_length_eq_zero (by rw [hm, h0])
    subst this
    subst h0
    refine ⟨v, w, ?_, by simpa using h, World.grownBy.refl _ _⟩
    rcases h with ⟨rfl, _⟩ | ⟨g, cap, rfl, _, _, hnc, _⟩
    · cases A <;> simp [Builtin.append_, run_underlying T.und, sizeOf, typeInfo, hi, Builtin.lenOf, Builtin.firstCells, loadCells, loadCellsFrom]
    · cases A <;> simp [Builtin.append_, run_underlying T.und, sizeOf, typeInfo, hi, Builtin.lenOf, Builtin.firstCells, loadCells, loadCellsFrom, hnc, storeCells]
  · obtain ⟨ad, rfl, hc⟩ := sl_cells hs h0
    have hl : (bl ys).length = m * 1 := by rw [bl_len, hm]; omega
    rcases h with ⟨rfl, rfl⟩ | ⟨g, cap, rfl, hbg, hgl, h1, h2, h3, h4⟩
    · obtain ⟨v', w', e1, e2, e3, _⟩ := run_append_own_at (P := P) w base t ty e i (.int .u8 0) 1 1 T.und hi hz hsz hb T.zsz T.pos (.slice none 0 0) 0 [] (World.ownsRow_nil w base e 1) ad m c (bl ys) hl hc bl_one (by simp only [maxLen]; omega) (by simp at hbytes ⊢; omega) hbase
      refine ⟨v', w', e1, OwnB.of_own (e := e) (S := fun _ => False) ⟨bl ys, by rw [List.nil_append, hm]; simpa [Rep.u8] using e2, fun i x hx => ?_⟩, e3⟩
      show _ = _
      rw [List.nil_append] at hx
      rw [show Rep.u8.size = 1 from rfl, Nat.mul_one, List.take_one, List.head?_drop]
      simp [bl, hx]
    · by_cases hroom : xs.length + m ≤ cap
      · have hr := run_append_room_cells (P := P) w t ty e i T.und hi g 0 xs.length cap ad m c (bl ys) (by rw [hsz]; exact hl) hc bl_one hroom
          (fun j hj => (h4 _ (by rw [hsz]; rw [bl_len] at hj; omega)).1) (fun j hj => (h4 _ (by rw [hsz]; rw [bl_len] at hj; omega)).2)
        rw [hsz, Nat.mul_one, Nat.zero_add] at hr
        have hin : ∀ j, j < (bl ys).length → (w.cell? ⟨g, xs.length + j, none⟩).isSome = true := fun j hj => (h4 _ (by rw [bl_len] at hj; omega)).1
        have hsize : (w.setCells g xs.length (bl ys)).heap.size = w.heap.size := by
          have : ∀ (vs : List Value) (o : Nat) (w : World), (w.setCells g o vs).heap.size = w.heap.size := by
            intro vs
            induction vs with
            | nil => intro o w; rfl
            | cons v vs ih => intro o w; rw [World.setCells, ih]; simp [World.setCell]
          exact this _ _ _
        have hcell : ∀ j u, (bl (xs ++ ys))[j]? = some u → (w.setCells g xs.length (bl ys)).cell? ⟨g, j, none⟩ = some u := by
          intro j u hu
          rw [bl_app, List.getElem?_append] at hu
          split at hu
          · rename_i hj
            rw [World.cell?_setCells_out g _ _ _ _ (fun _ _ => .inl (by show j < xs.length; rwa [bl_len] at hj))]
            exact h3 j u hu
          · rename_i hj
            rw [bl_len] at hj hu
            have hj2 := (List.getElem?_eq_some_iff.1 hu).1
            have := World.cell?_setCells_in g (bl ys) xs.length w hin (j - xs.length) hj2
            rw [show xs.length + (j - xs.length) = j by omega] at this
            rw [this, ← hu, List.getElem?_eq_getElem hj2]
        have hsome : ∀ j, j < cap → ((w.setCells g xs.length (bl ys)).cell? ⟨g, j, none⟩).isSome = true := by
          intro j hj
          by_cases hin2 : xs.length ≤ j ∧ j < xs.length + m
          · have hj2 : j - xs.length < (bl ys).length := by rw [bl_len]; omega
            have := World.cell?_setCells_in g (bl ys) xs.length w hin (j - xs.length) hj2
            rw [show xs.length + (j - xs.length) = j by omega] at this
            rw [this]
            rfl
          · rw [World.cell?_setCells_out g _ _ _ _ (fun _ _ => by show j < xs.length ∨ xs.length + (bl ys).length ≤ j; rw [bl_len]; omega)]
            exact (h4 j hj).1
        refine ⟨_, _, hr, .inr ⟨g, cap, by rw [List.length_append, hm], hbg, by rw [hsize]; exact hgl, by rw [List.length_append, hm]; exact hroom, h2, hcell, fun j hj => ⟨hsome j hj, by rw [World.frozen?_setCells]; exact (h4 j hj).2⟩⟩, ?_⟩
        have hgr : ∀ (vs : List Value) (o : Nat) (w : World), w.grownBy (w.setCells g o vs) (some g) := by
          intro vs
          induction vs with
          | nil => intro o w; exact World.grownBy.refl _ _
          | cons v vs ih =>
            intro o w
            rw [World.setCells]
            exact grownBy_trans (grownBy_set (World.grownBy.refl w (some g)) v) (ih _ _)
        exact hgr _ _ _
      · obtain ⟨v', w', e1, e2, e3⟩ := run_append_arg_grows (P := P) w t ty e i (.int .u8 0) 1 1 T.und hi hz hsz hb T.zsz T.pos ⟨g, 0, none⟩ xs.length cap (bl xs) (by rw [bl_len]; omega)
          (fun j u hu => by rw [Addr.add_lit, Nat.zero_add]; exact h3 j u hu) ad m c (bl ys) hl hc (by omega) (by simp only [maxLen]; omega) (by omega)
        refine ⟨v', w', e1, OwnB.of_own (e := e) (S := fun _ => False) ⟨bl (xs ++ ys), ?_, fun i x hx => ?_⟩, grownBy_any e3 _⟩
        · rw [List.length_append, hm, bl_app]
          exact ownsRow_base e2 fun k hk => Nat.le_trans hbase (e2.lt k hk).1
        · show _ = _
          rw [show Rep.u8.size = 1 from rfl, Nat.mul_one, List.take_one, List.head?_drop]
          rw [show (bl (xs ++ ys))[i]? = some (.int .u8 (x.toNat : Int)) by rw [bl, List.getElem?_map, hx]; rfl]
          rfl

theorem wp_appB {o : Oper} {a : Act} {K : Act → World → Prop} {Q : Exit → Act → World → Prop} {t e : TypeId} (T : ElemT P t e (.int .u8 0) 1 1) (s x : Operand)
    (ho : o.op = .call { callee := .builtin .append, args := #[s, x], argTypes := #[t, t] }) {base : Nat} {v : Value} {xs ys : List UInt8} (hs : a.eval s = v) (hown : OwnB w base v xs) {S : Nat → Prop}
    {A : Option Addr} {m c : Nat} (hx : a.eval x = .slice A m c) (hsl : Rep.u8.sl w S A m c ys) (hbytes : xs.length + m ≤ 140737488355328) (hbase : base ≤ w.heap.size)
    (h : ∀ v' w', OwnB w' base v' (xs ++ ys) → w.grownBy w' v.ownBlock → K (a.put o.dst v') w') : o.wp P a w K Q := by
  obtain ⟨v', w', hrun, h2, h3⟩ := run_appB T o.type hown hsl hbytes hbase
  unfold Oper.wp execOp
  simp only [ho, resolve, invoke, builtin, Sem.run_bind, Sem.run_pure, Result.andThen_ok, List.map_toArray, List.map_cons, List.map_nil, hs, hx, hrun]
  exact h v' w' h2 h3
theorem wpList_appB {ops : Array Oper} {rest : List Oper} {o : Oper} {a : Act} {Q : Exit → Act → World → Prop} (hgd : o.guard = none) {t e : TypeId} (T : ElemT P t e (.int .u8 0) 1 1) (s x : Operand)
    (ho : o.op = .call { callee := .builtin .append, args := #[s, x], argTypes := #[t, t] }) {base : Nat} {v : Value} {xs ys : List UInt8} (hs : a.eval s = v) (hown : OwnB w base v xs) {S : Nat → Prop}
    {A : Option Addr} {m c : Nat} (hx : a.eval x = .slice A m c) (hsl : Rep.u8.sl w S A m c ys) (hbytes : xs.length + m ≤ 140737488355328) (hbase : base ≤ w.heap.size)
    (h : ∀ v' w', OwnB w' base v' (xs ++ ys) → w.grownBy w' v.ownBlock → wpList P ops Q rest (a.put o.dst v') w') : wpList P ops Q (o :: rest) a w :=
  wpList_plain hgd fun _ hK => wp_appB T s x ho hs hown hx hsl hbytes hbase fun v' w' h2 h3 => hK _ _ (h v' w' h2 h3)

/-- '[]byte(s)' gives a row of the call's own. -/
theorem conv_own {src dst e : TypeId} (hs : P.underlying src = some .string) (hd : P.underlying dst = some (.slice e)) (he : P.underlying e = some (.int .u8)) (w : World) (xs : List UInt8) (hx : xs.length ≤ 9223372036854775807) :
    ∃ v w', (convert src dst (.string ⟨xs.toArray⟩)).run P w = .ok v w' ∧ OwnB w' w.heap.size v xs ∧ Below w.heap.size w w' := by
  have hl : ByteArray.size ⟨xs.toArray⟩ = xs.length := by simp [ByteArray.size]
  have hr := Lib.run_convert_string_bytes (P := P) w src dst e ⟨xs.toArray⟩ hs hd he
  rw [hl] at hr
  have hge := grownCap_ge w xs.length 0 e
  have hle := grownCap_le_maxLen w xs.length 0 e (by simpa [maxLen] using hx)
  have hcs : (Lib.bytesCells w e ⟨xs.toArray⟩).size = grownCap w xs.length 0 e := by
    simp only [Lib.bytesCells, Array.size_append, Array.size_map, Array.size_replicate, hl]
    show xs.toArray.size + _ = _
    rw [List.size_toArray]
    omega
  have hnew := Lib.bytesWorld_at_new w e ⟨xs.toArray⟩
  refine ⟨_, _, hr, .inr ⟨w.heap.size, _, rfl, Nat.le_refl _, by rw [Lib.bytesWorld_size]; omega, hge, by simpa [maxLen] using hle, fun j u hu => ?_, fun j hj => ⟨?_, ?_⟩⟩, ?_⟩
  · have hj : j < xs.length := by
      have := (List.getElem?_eq_some_iff.1 hu).1
      rwa [bl_len] at this
    rw [Lib.bytesWorld_cell w e ⟨xs.toArray⟩ j (by rw [hl]; exact hj)]
    simp [bl, List.getElem?_map, List.getElem?_eq_getElem hj] at hu
    rw [← hu]
    simp [List.getD, hj]
  · have hsz : j < (Lib.bytesCells w e ⟨xs.toArray⟩).size := by rw [hcs]; exact hj
    simp [World.cell?, hnew, hsz]
  · simp only [World.frozen?, hnew, Bool.and_eq_false_iff, decide_eq_false_iff_not]
    left
    rw [hcs]
    omega
  · refine ⟨?_, ?_, ?_, by rw [Lib.bytesWorld_size]; omega, fun k hk => Lib.bytesWorld_at_old w e _ k hk⟩
    all_goals
      unfold Lib.bytesWorld World.freeze
      split <;> rfl
end
end Go.Proofs.YtdakeodebgggfaaDoor
