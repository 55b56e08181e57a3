/- KeyWrites: whether any principal may be, its value, or the error, is the document's; it is got as it was: for every principal whose parts add up to at most 1048576 values and letters. -/
import Derived.Test.YtdakeodebgggfaaDoorUo
import Derived.Test.YtdakeodebgggfaaDoorQf
namespace Go.Proofs.YtdakeodebgggfaaDoor
open Go.ChangeShapes Go.WideShapes Go.ChangeAt Go.RowKit
set_option linter.unusedSimpArgs false

/-- A principal is a bool and bytes. -/
theorem opensN_key {P : Program} {t tb tB ty : TypeId} {fs : Array Field} (ht : P.underlying t = some (.struct fs)) (hf : fs.toList.map (fun f => (f.type, f.offset)) = [(tb, 0), (tB, 1)]) (hc : P.cellsOf t = 2)
    (hb : P.underlying tb = some .bool) (hB : P.underlying tB = some (.slice ty)) (hy : P.underlying ty = some (.int .u8)) (cb : P.cellsOf tb = 1) (cB : P.cellsOf tB = 1) (cy : P.cellsOf ty = 1) (fuel : Nat) :
    OpensN P fuel t Rep.key (fun k => k.2.length) := by
  intro H enc w sp held cs x h
  obtain ⟨xs, n, rfl, rfl, hcl, hlx, hg⟩ := DataW.trod_struct ht h
  have hfl : fs.size = 2 := by
    have := congrArg List.length hf
    simpa using this
  have hfi : ∀ (i : Nat) (p : Nat × Nat), [(tb, 0), (tB, 1)][i]? = some p → ∃ f : Field, fs[i]? = some f ∧ f.type = p.1 ∧ f.offset = p.2 := by
    intro i p hp
    rw [← hf, List.getElem?_map, Option.map_eq_some_iff] at hp
    obtain ⟨f, h1, rfl⟩ := hp
    exact ⟨f, by simpa using h1, rfl, rfl⟩
  have hx5 : xs.length = 2 := by omega
  have hc5 : cs.length = 2 := by omega
  match xs, hx5, cs, hc5 with
  | [x0, x1], _, [c0, c1], _ =>
    obtain ⟨f0, g0, t0, o0⟩ := hfi 0 _ rfl
    obtain ⟨f1, g1, t1, o1⟩ := hfi 1 _ rfl
    have e0 := hg 0 f0 g0
    have e1 := hg 1 f1 g1
    rw [t0, o0, cb] at e0
    rw [t1, o1, cB] at e1
    obtain ⟨b0, q0, r0⟩ := DataW.trod_bool hb e0
    have oB : ∀ n, OpensN P n tB Rep.u8.slice (fun xs => (xs.map fun _ => 1).sum + 1) := fun n => opensN_slice n hB cy fun m _ => opensN_u8 m hy cy
    obtain ⟨y1, ⟨A1, n1, k1, q1, s1⟩, w1⟩ := oB _ _ _ _ _ _ _ _ e1
    simp only [List.drop_zero, List.drop_succ_cons, List.take_succ_cons, List.take_zero, List.cons.injEq, and_true] at q0 q1
    subst q0 q1
    refine ⟨(b0, y1), ⟨A1, n1, k1, rfl, s1⟩, ?_⟩
    simp only [sum_ones] at w1
    simp only [Rows.uptoBulk, Rows.uptoBulkAll]
    simp only [List.map_cons, List.map_nil, Rows.uptoBulkAll]
    omega
theorem opens_key (fuel : Nat) : OpensN Tryd.prog fuel 38 Rep.key (fun k => k.2.length) :=
  opensN_key Tryd.underlying38 (by kernel_rfl) (by kernel_rfl) Tryd.underlying4 Tryd.underlying22 Tryd.underlying5 (by kernel_rfl) (by kernel_rfl) (by kernel_rfl) fuel
/-- The walk's theorem for any reading of a principal. -/
theorem keywrites_k (k : Bool × List UInt8) (w : World) (cs : List Value) (h : Rep.key.rd w (fun b => b < w.heap.size) cs k) (_ : k.2.length ≤ 1048576) (hT : Tabs w.heap.size w) :
    Calls Tryd.prog 4 #[.agg cs.toArray] w (Tells w (.bool true)) := by
  obtain ⟨A, n, c, rfl, hs⟩ := h
  exact keywrites_c k.1 k.2 A n c w hs hT

set_option maxRecDepth 100000 in
theorem contractKeyWrites (H : Type) (enc : TypeId × Value → H) (W : World) (base : Nat) (args : Array Value) (ds gs : List (DataW H)) (before : List MemPlace)
    (hval : ∀ (j : Nat) t v, Tryd.f4.params[j]? = some t → args[j]? = some v → Value.okWide Tryd.prog W .any base t v)
    (hW : DataW.Whole enc Tryd.prog Tryd.f4.params.toList Rows.keyWritesSpec.vars false W args.toList ds gs before) (hL : laidMetH Tryd.prog laid3 W) (hk : Rows.uptoSmall H (ds ++ gs) = true) :
    Calls Tryd.prog 4 args W fun e W' => ∃ v, e = .returned v ∧ Rows.keyWritesSpec.post enc Tryd.prog Tryd.f4 false true false false W args v W' := by
  have hW' := hW
  obtain ⟨p, q, hA0, hV, rfl, hfz, hnd⟩ := hW
  have hA : DataW.TrodAll enc Tryd.prog W 0 (fun _ => true) true Tryd.f4.params.toList args.toList ds p := hA0
  rw [Tryd.params4] at hA hval
  obtain ⟨v0, vs0, d0, ds0, p0, q0, hargs, rfl, rfl, h0, r0⟩ := trodAll_cons hA
  obtain ⟨rfl, rfl, rfl⟩ := trodAll_nil r0
  obtain rfl : args = #[v0] := by cases args; simp_all
  obtain ⟨rfl, rfl⟩ := trodVars_none hV
  clear hA0
  have hb := bulk_le hk
  simp only [List.append_nil, List.cons_append, List.nil_append, Rows.uptoBulkAll] at hb
  obtain ⟨cs0, rfl, _⟩ := okWide_struct Tryd.underlying38 (hval 0 _ v0 rfl rfl)
  obtain ⟨l0, rfl⟩ : ∃ l : List Value, cs0 = l.toArray := ⟨cs0.toList, by simp⟩
  have k0 := h0
  have lt0 : ∀ x ∈ p0, x.block < W.heap.size := by obtain ⟨m, hm⟩ := k0; exact DataW.trod_lt m _ _ _ hm
  obtain ⟨m0, hm0⟩ := h0
  obtain ⟨y0, ha0, hw0⟩ := opens_key m0 _ _ _ _ _ _ _ hm0
  dsimp only at hw0
  refine (keywrites_k y0 W _ ha0 (by omega) (tabs_of_laid hL)).mono fun e W' ⟨he, bel⟩ => ?_
  subst he
  exact ⟨_, rfl, _, _, _, [], _, [], hW', trodAll_mk1 (shut_bool Tryd.underlying4 _), (trodAll_cons_mk (Below.trod laidK (by kernel_rfl) (of_decide_eq_true (by kernel_rfl)) k0 bel lt0) trodAll_mk0), rfl, bel.frame _, fun h => by cases h⟩
theorem readsKeyWrites (os : Os) {H : Type} (enc : TypeId × Value → H) : ∃ places, DataW.whole enc Tryd.prog ((laidWorld os).forCall (fun _ _ => 0) ⟨#[], #[.agg #[.bool false, .slice none 0 0]], []⟩).memory Tryd.f4.params.toList Rows.keyWritesSpec.vars false (#[.agg #[.bool false, .slice none 0 0]] : Array Value).toList 8 = some ([.agg [.lit (.bool false), .nil]], [], places) :=
  ⟨[], by kernel_rfl⟩
set_option maxRecDepth 100000 in
theorem liftedKeyWrites (os : Os) (started : os.Started) (H : Type) (enc : TypeId × Value → H) (F : Stop.Interp) :
    ReturnsInHanded {} Tryd.checked os 4 .any ((Rows.OpenSpec.upto Rows.keyWritesSpec).preRow enc Tryd.prog Tryd.f4 Rows.keyWritesUptoRow.domain false Rows.keyWritesUptoRow.laid) (((Rows.OpenSpec.upto Rows.keyWritesSpec).at F).post enc Tryd.prog Tryd.f4 false true false false) := by
  obtain ⟨places, hx⟩ := readsKeyWrites os enc
  refine returnsInHanded_of_row (C := Tryd.checked) (s := Rows.OpenSpec.upto Rows.keyWritesSpec) ownK started (by kernel_rfl) Tryd.func4
    (witness_row_at (enc := enc) (C := Tryd.checked) false (laidWorld os) #[.agg #[.bool false, .slice none 0 0]] rfl (by kernel_rfl) (by kernel_rfl) (by kernel_rfl)
      (OpenSpec.preRow_of_cond 8 hx (by kernel_rfl) (fun k hk => by cases hk; kernel_rfl) (by kernel_rfl) (laid_met os _))) ?_
  intro W base args ds gs before hval hW _ hcond _ hL _ _
  exact contractKeyWrites H enc W base args ds gs before hval hW hL (hcond _ rfl)
theorem saidKeyWrites : Rows.KeyWritesUptoSaid :=
  OpenClaim.holds_of_cond 4 Tryd.f4 rfl rfl rfl rfl rfl rfl rfl ⟨rfl, rfl, rfl, rfl, rfl⟩ rfl rfl rfl rfl rfl (by kernel_rfl) Tryd.func4 (by kernel_rfl)
    (of_decide_eq_true (by kernel_rfl)) (by unfold Func.isWrapper; first | (rw [if_pos (by decide +kernel)]; kernel_rfl) | (rw [if_neg (by decide +kernel)]; exact ⟨rfl, rfl⟩))
    (fun os started H enc _ F => by rw [OpenClaim.pre_eq_preRow]; exact liftedKeyWrites os started H enc F)
theorem plainKeyWrites (f : FuncId) (fn : Func) (hf : Tryd.pinned.checked.prog.funcNamed "greffier/greffierlaw14.KeyWrites" = some f) (hfn : Tryd.pinned.checked.prog.funcs[f]? = some fn) :
    false = Tryd.pinned.checked.prog.looks [] ∧ ∀ (j : Nat) t, fn.params[j]? = some t → Tryd.pinned.checked.prog.wantsStandIn t = false := by
  obtain rfl : f = 4 := Option.some.inj ((show Tryd.prog.funcNamed "greffier/greffierlaw14.KeyWrites" = some 4 by kernel_rfl).symm.trans hf) |>.symm
  obtain rfl : fn = Tryd.f4 := (Option.some.inj (Tryd.func4.symm.trans hfn)).symm
  refine ⟨by kernel_rfl, fun j t ht => ?_⟩
  rw [Tryd.params4] at ht
  have ht := Array.mem_of_getElem? ht
  simp only [List.mem_toArray, List.mem_cons, List.not_mem_nil, or_false] at ht
  rcases ht with rfl
  · exact (show Tryd.prog.wantsStandIn 38 = false by kernel_rfl)
theorem keywrites_card : Rows.KeyWritesUptoCardSaid :=
  Claim7.holds_tied_plain_at .later [] _ _ _ _ saidKeyWrites (fun _ h => by cases h) (by kernel_rfl) (fun _ h => by cases h) keyWritesUpto_row_tie rfl ⟨rfl, rfl⟩ (by kernel_rfl) rfl plainKeyWrites (by kernel_rfl)
#print axioms keywrites_card
end Go.Proofs.YtdakeodebgggfaaDoor
