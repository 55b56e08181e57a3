/- Whether any signature is right is the document's: 'EddsaVerifies' returns true for every input. Conditions: none beyond the row's own. -/
import Derived.Test.YtkpkiefebipbbaaA6
import Derived.Test.YtkpkiefebipbbaaRows
set_option linter.unusedVariables false
set_option linter.unusedSimpArgs false
set_option maxRecDepth 100000
set_option maxHeartbeats 8000000
namespace Go.Proofs.Ytkpkiefebipbbaa
open Go.ChangeShapes Go.WideShapes Go.ChangeAt Go.RowKit
theorem verifies_c (a b c : List UInt8) (A : Option Addr) (n k : Nat) (A2 : Option Addr) (n2 k2 : Nat) (A3 : Option Addr) (n3 k3 : Nat) (w : World) (ha : Rep.u8.sl w (fun b => b < w.heap.size) A n k a) (hb : Rep.u8.sl w (fun b => b < w.heap.size) A2 n2 k2 b) (hc : Rep.u8.sl w (fun b => b < w.heap.size) A3 n3 k3 c) :
    Calls Try.prog 3 #[.slice A n k, .slice A2 n2 k2, .slice A3 n3 k3] w fun e w' => e = .returned (.bool true) ∧ Below w.heap.size w w' :=
  law_calls (verifies_m a b c) (dargs_cons (rd_of_sl ha) (dargs_cons (rd_of_sl hb) (dargs_cons (rd_of_sl hc) dargs_nil)))
set_option maxRecDepth 100000 in
theorem liftedEddsaVerifies (os : Os) (started : os.Started) (H : Type) (enc : TypeId × Value → H) :
    ReturnsInHanded {} Try.checked os 3 .any (Rows.eddsaVerifiesSpec.pre6 enc Try.prog Try.f3 Rows.eddsaVerifiesRow.domain false) (Rows.eddsaVerifiesSpec.post enc Try.prog Try.f3 false true false false) := by
  refine returnsInHanded_of_change (C := Try.checked) own started (by kernel_rfl) Try.func3
    (ChangeSpec.witness6 (enc := enc) (C := Try.checked) false ⟨#[], #[.slice none 0 0, .slice none 0 0, .slice none 0 0], []⟩ 8 (by kernel_rfl) (by kernel_rfl) (by kernel_rfl) (by kernel_rfl)) ?_
  intro W base args ds gs before hval0 hW hcnd _
  have hval : ∀ (j : Nat) t v, Try.f3.params[j]? = some t → args[j]? = some v → Value.okWide Try.prog W .any base t v := hval0
  have hW' := hW
  obtain ⟨p, q, hA0, hV, rfl, hfz, hnd⟩ := hW
  have hA : DataW.TrodAll enc Try.prog W 0 (fun _ => true) true Try.f3.params.toList args.toList ds p := hA0
  rw [Try.params3] at hA hval
  obtain ⟨v0, vs0, d0, ds0, p0, q0, hargs, rfl, rfl, h0, r0⟩ := trodAll_cons hA
  obtain ⟨v1, vs1, d1, ds1, p1, q1, rfl, rfl, rfl, h1, r1⟩ := trodAll_cons r0
  obtain ⟨v2, vs2, d2, ds2, p2, q2, rfl, rfl, rfl, h2, r2⟩ := trodAll_cons r1
  obtain ⟨rfl, rfl, rfl⟩ := trodAll_nil r2
  obtain rfl : args = #[v0, v1, v2] := by cases args; simp_all
  obtain ⟨rfl, rfl⟩ := trodVars_none hV
  obtain ⟨A0, n0, c0, rfl⟩ := okWide_slice Try.underlying22 (hval 0 _ v0 rfl rfl)
  have k0 := h0
  have lt0 : ∀ x ∈ p0, x.block < W.heap.size := by obtain ⟨m, hm⟩ := k0; exact DataW.trod_lt m _ _ _ hm
  have ho0 := opens_slice Try.underlying22 (by kernel_rfl) (opens_u8 Try.underlying5 (by kernel_rfl))
  obtain ⟨a0, ha0⟩ : ∃ a, (Rep.u8).slice.rd W (fun b => b < W.heap.size) [.slice A0 n0 c0] a := by
    obtain ⟨m, hm⟩ := h0
    exact ho0.2 _ _ _ _ _ _ _ _ hm
  obtain ⟨_, _, _, e0, ha0⟩ := ha0
  simp only [List.cons.injEq, Value.slice.injEq, and_true] at e0
  obtain ⟨rfl, rfl, rfl⟩ := e0
  obtain ⟨A1, n1, c1, rfl⟩ := okWide_slice Try.underlying22 (hval 1 _ v1 rfl rfl)
  have k1 := h1
  have lt1 : ∀ x ∈ p1, x.block < W.heap.size := by obtain ⟨m, hm⟩ := k1; exact DataW.trod_lt m _ _ _ hm
  have ho1 := opens_slice Try.underlying22 (by kernel_rfl) (opens_u8 Try.underlying5 (by kernel_rfl))
  obtain ⟨a1, ha1⟩ : ∃ a, (Rep.u8).slice.rd W (fun b => b < W.heap.size) [.slice A1 n1 c1] a := by
    obtain ⟨m, hm⟩ := h1
    exact ho1.2 _ _ _ _ _ _ _ _ hm
  obtain ⟨_, _, _, e1, ha1⟩ := ha1
  simp only [List.cons.injEq, Value.slice.injEq, and_true] at e1
  obtain ⟨rfl, rfl, rfl⟩ := e1
  obtain ⟨A2, n2, c2, rfl⟩ := okWide_slice Try.underlying22 (hval 2 _ v2 rfl rfl)
  have k2 := h2
  have lt2 : ∀ x ∈ p2, x.block < W.heap.size := by obtain ⟨m, hm⟩ := k2; exact DataW.trod_lt m _ _ _ hm
  have ho2 := opens_slice Try.underlying22 (by kernel_rfl) (opens_u8 Try.underlying5 (by kernel_rfl))
  obtain ⟨a2, ha2⟩ : ∃ a, (Rep.u8).slice.rd W (fun b => b < W.heap.size) [.slice A2 n2 c2] a := by
    obtain ⟨m, hm⟩ := h2
    exact ho2.2 _ _ _ _ _ _ _ _ hm
  obtain ⟨_, _, _, e2, ha2⟩ := ha2
  simp only [List.cons.injEq, Value.slice.injEq, and_true] at e2
  obtain ⟨rfl, rfl, rfl⟩ := e2
  clear hA0 hval0
  refine (verifies_c a0 a1 a2 _ _ _ _ _ _ _ _ _ W ha0 ha1 ha2).mono fun e W' ⟨he, bel⟩ => ?_
  subst he
  exact ⟨_, rfl, _, _, _, [], _, [], hW', trodAll_mk1 (shut_bool Try.underlying4 _), (trodAll_cons_mk (Below.trod laidOut (by kernel_rfl) (of_decide_eq_true (by kernel_rfl)) k0 bel lt0) (trodAll_cons_mk (Below.trod laidOut (by kernel_rfl) (of_decide_eq_true (by kernel_rfl)) k1 bel lt1) (trodAll_cons_mk (Below.trod laidOut (by kernel_rfl) (of_decide_eq_true (by kernel_rfl)) k2 bel lt2) trodAll_mk0))), rfl, bel.frame _, fun h => by cases h⟩
theorem verifies_holds : Rows.EddsaVerifiesSaid :=
  OpenClaim.holds_of_wide 3 Try.f3 rfl rfl rfl rfl rfl rfl rfl ⟨rfl, rfl, rfl, rfl, rfl⟩ rfl rfl rfl rfl rfl (by kernel_rfl) Try.func3 (by kernel_rfl)
    (of_decide_eq_true (by kernel_rfl)) (by unfold Func.isWrapper; first | (rw [if_pos (by decide +kernel)]; kernel_rfl) | (rw [if_neg (by decide +kernel)]; exact ⟨rfl, rfl⟩))
    (fun os started H enc _ => liftedEddsaVerifies os started H enc)
#print axioms verifies_holds
end Go.Proofs.Ytkpkiefebipbbaa
