/- A right signature is right no more, if the order is put to its last number, if it is cut off, or has a byte more: 'EddsaStrict' returns true for every input. Conditions: none beyond the row's own. -/
import Derived.Test.YtkpkiefebipbbaaC6
set_option linter.unusedVariables false
set_option linter.unusedSimpArgs false
set_option maxRecDepth 100000
set_option maxHeartbeats 8000000
namespace Go.Proofs.Ytkpkiefebipbbaa
open Go.ChangeShapes Go.WideShapes Go.ChangeAt Go.RowKit
theorem okWide_array {P : Program} {w : World} {r : Reach} {base : Nat} {t e : TypeId} {n : Nat} {v : Value} (ht : P.underlying t = some (.array n e)) (h : Value.okWide P w r base t v) : ∃ cs, v = .agg cs ∧ cs.size = P.cellsOf t := by
  simp only [Value.okWide, ht] at h
  obtain ⟨cs, h1, h2, _⟩ := h
  exact ⟨cs, h1, h2⟩
theorem open_arr8 {H : Type} {enc : TypeId × Value → H} {P : Program} {w : World} {base : Nat} {sp : Nat → Bool} {held : Bool} {fuel n : Nat} {t e : TypeId} {cs : List Value} {x : DataW H × List MemPlace} (ht : P.underlying t = some (.array n e)) (he : P.underlying e = some (.int .u8)) (h1 : P.cellsOf e = 1) (h2 : P.cellsOf t = n)
    (h : DataW.trod enc P w base sp held fuel t cs = some x) : ∃ l : List UInt8, l.length = n ∧ cs = l.map bV := by
  obtain ⟨xs, m, _, _, hl, hn, hi⟩ := DataW.trod_array ht h
  rw [h2] at hl
  have hel : ∀ i, i < n → ∃ b : UInt8, cs[i]? = some (bV b) := fun i hin => by
    have h3 := hi i hin
    rw [h1, Nat.mul_one, List.getElem?_eq_getElem (by omega)] at h3
    obtain ⟨z, hz, _, hw⟩ := DataW.trod_int he h3
    have hb : 0 ≤ z ∧ z ≤ 255 := bounds_u8 hw
    have h4 : cs[i]? = some (.int .u8 z) := by
      have h5 : ((cs.drop i).take 1)[0]? = some (.int .u8 z) := by rw [hz]; rfl
      rw [List.getElem?_take, if_pos (by omega), List.getElem?_drop, Nat.add_zero] at h5
      exact h5
    refine ⟨UInt8.ofNat z.toNat, ?_⟩
    rw [h4, bV, UInt8.toNat_ofNat_of_lt' (by simp only [UInt8.size]; omega)]
    congr 2
    omega
  have hg : ∀ (cs : List Value) (n : Nat), cs.length = n → (∀ i, i < n → ∃ b : UInt8, cs[i]? = some (bV b)) → ∃ l : List UInt8, l.length = n ∧ cs = l.map bV := by
    intro cs
    induction cs with
    | nil => intro n hn _; exact ⟨[], hn, rfl⟩
    | cons v cs ih =>
      intro n hn hel
      obtain ⟨b, hb⟩ := hel 0 (by rw [← hn]; simp)
      obtain ⟨l, hl, e⟩ := ih (n - 1) (by rw [← hn]; simp) fun i hin => by
        obtain ⟨c, hc⟩ := hel (i + 1) (by omega)
        exact ⟨c, by simpa using hc⟩
      have hv : v = bV b := by simpa using hb
      have hp : 0 < n := by rw [← hn]; simp
      exact ⟨b :: l, by rw [List.length_cons, hl]; omega, by rw [hv, e]; rfl⟩
  exact hg cs n hl hel
theorem strict_c (a b : List UInt8) (A2 : Option Addr) (n2 k2 : Nat) (w : World) (la : a.length = 32) (hb : Rep.u8.sl w (fun b => b < w.heap.size) A2 n2 k2 b) :
    Calls Try.prog 5 #[.agg (a.map bV).toArray, .slice A2 n2 k2] w fun e w' => e = .returned (.bool true) ∧ Below w.heap.size w w' :=
  law_calls (strict_m a b la) (dargs_cons (map_fwd (d := bD) (v := bV) (fun _ _ x => .v _ rfl) a) (dargs_cons (rd_of_sl hb) dargs_nil))
set_option maxRecDepth 100000 in
theorem liftedEddsaStrict (os : Os) (started : os.Started) (H : Type) (enc : TypeId × Value → H) :
    ReturnsInHanded {} Try.checked os 5 .any (Rows.eddsaStrictSpec.pre6 enc Try.prog Try.f5 Rows.eddsaStrictRow.domain false) (Rows.eddsaStrictSpec.post enc Try.prog Try.f5 false true false false) := by
  refine returnsInHanded_of_change (C := Try.checked) own started (by kernel_rfl) Try.func5
    (ChangeSpec.witness6 (enc := enc) (C := Try.checked) false ⟨#[], #[.agg #[.int .u8 0, .int .u8 0, .int .u8 0, .int .u8 0, .int .u8 0, .int .u8 0, .int .u8 0, .int .u8 0, .int .u8 0, .int .u8 0, .int .u8 0, .int .u8 0, .int .u8 0, .int .u8 0, .int .u8 0, .int .u8 0, .int .u8 0, .int .u8 0, .int .u8 0, .int .u8 0, .int .u8 0, .int .u8 0, .int .u8 0, .int .u8 0, .int .u8 0, .int .u8 0, .int .u8 0, .int .u8 0, .int .u8 0, .int .u8 0, .int .u8 0, .int .u8 0], .slice none 0 0], []⟩ 8 (by kernel_rfl) (by kernel_rfl) (by kernel_rfl) (by kernel_rfl)) ?_
  intro W base args ds gs before hval0 hW hcnd _
  have hval : ∀ (j : Nat) t v, Try.f5.params[j]? = some t → args[j]? = some v → Value.okWide Try.prog W .any base t v := hval0
  have hW' := hW
  obtain ⟨p, q, hA0, hV, rfl, hfz, hnd⟩ := hW
  have hA : DataW.TrodAll enc Try.prog W 0 (fun _ => true) true Try.f5.params.toList args.toList ds p := hA0
  rw [Try.params5] at hA hval
  obtain ⟨v0, vs0, d0, ds0, p0, q0, hargs, rfl, rfl, h0, r0⟩ := trodAll_cons hA
  obtain ⟨v1, vs1, d1, ds1, p1, q1, rfl, rfl, rfl, h1, r1⟩ := trodAll_cons r0
  obtain ⟨rfl, rfl, rfl⟩ := trodAll_nil r1
  obtain rfl : args = #[v0, v1] := by cases args; simp_all
  obtain ⟨rfl, rfl⟩ := trodVars_none hV
  obtain ⟨cs0, rfl, _⟩ := okWide_array Try.underlying25 (hval 0 _ v0 rfl rfl)
  obtain ⟨l0, rfl⟩ : ∃ l : List Value, cs0 = l.toArray := ⟨cs0.toList, by simp⟩
  have k0 := h0
  have lt0 : ∀ x ∈ p0, x.block < W.heap.size := by obtain ⟨m, hm⟩ := k0; exact DataW.trod_lt m _ _ _ hm
  obtain ⟨a0, ha0, rfl⟩ : ∃ b : List UInt8, b.length = 32 ∧ l0 = b.map bV := by
    obtain ⟨m, hm⟩ := h0
    exact open_arr8 Try.underlying25 Try.underlying5 (by kernel_rfl) (by kernel_rfl) hm
  obtain ⟨A1, n1, c1, rfl⟩ := okWide_slice Try.underlying22 (hval 1 _ v1 rfl rfl)
  have k1 := h1
  have lt1 : ∀ x ∈ p1, x.block < W.heap.size := by obtain ⟨m, hm⟩ := k1; exact DataW.trod_lt m _ _ _ hm
  have ho1 := opens_slice Try.underlying22 (by kernel_rfl) (opens_u8 Try.underlying5 (by kernel_rfl))
  obtain ⟨a1, ha1⟩ : ∃ a, (Rep.u8).slice.rd W (fun b => b < W.heap.size) [.slice A1 n1 c1] a := by
    obtain ⟨m, hm⟩ := h1
    exact ho1.2 _ _ _ _ _ _ _ _ hm
  obtain ⟨_, _, _, e1, ha1⟩ := ha1
  simp only [List.cons.injEq, Value.slice.injEq, and_true] at e1
  obtain ⟨rfl, rfl, rfl⟩ := e1
  clear hA0 hval0
  refine (strict_c a0 a1 _ _ _ W ha0 ha1).mono fun e W' ⟨he, bel⟩ => ?_
  subst he
  exact ⟨_, rfl, _, _, _, [], _, [], hW', trodAll_mk1 (shut_bool Try.underlying4 _), (trodAll_cons_mk (Below.trod laidOut (by kernel_rfl) (of_decide_eq_true (by kernel_rfl)) k0 bel lt0) (trodAll_cons_mk (Below.trod laidOut (by kernel_rfl) (of_decide_eq_true (by kernel_rfl)) k1 bel lt1) trodAll_mk0)), rfl, bel.frame _, fun h => by cases h⟩
theorem strict_holds : Rows.EddsaStrictSaid :=
  OpenClaim.holds_of_wide 5 Try.f5 rfl rfl rfl rfl rfl rfl rfl ⟨rfl, rfl, rfl, rfl, rfl⟩ rfl rfl rfl rfl rfl (by kernel_rfl) Try.func5 (by kernel_rfl)
    (of_decide_eq_true (by kernel_rfl)) (by unfold Func.isWrapper; first | (rw [if_pos (by decide +kernel)]; kernel_rfl) | (rw [if_neg (by decide +kernel)]; exact ⟨rfl, rfl⟩))
    (fun os started H enc _ => liftedEddsaStrict os started H enc)
#print axioms strict_holds
end Go.Proofs.Ytkpkiefebipbbaa
