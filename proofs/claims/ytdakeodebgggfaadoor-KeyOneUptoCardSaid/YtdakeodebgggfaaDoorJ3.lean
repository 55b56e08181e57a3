/- Parts of the proof, laid together. -/
import Derived.Test.YtdakeodebgggfaaDoorJ2
import Derived.Test.YtdakeodebgggfaaDoorProg
import Derived.WalkKit
import Derived.ArgAppend
import Derived.Deep.RegionWith
import Derived.BigQuiet
import Derived.Deep.Slices
import Derived.ProofKit
import Derived.OpenShut
import Derived.ShutString
import Derived.ChangeOld
import Derived.Test.YtdakeodebgggfaaDoorRows

/- A machine of values, 15: regions are sound; what is said of a function follows from its body. -/
namespace Go.Proofs.YtdakeodebgggfaaDoor
open Go.RowKit
set_option linter.unusedVariables false
set_option linter.unusedSimpArgs false

section
variable {G : Nat → Option (List D)} {P : Program} {K : Ctx G} {F : Fr} {Q : Exit → FSt → Prop} {s : FSt} {m : NM} {a : Act} {w : World} {ops : Array Oper}
theorem Oper.wp_monoQ {o : Oper} {N N' : Act → World → Prop} {R R' : Exit → Act → World → Prop} (hN : ∀ a w, N a w → N' a w) (hR : ∀ e a w, R e a w → R' e a w) (h : o.wp P a w N R) : o.wp P a w N' R' := by
  have hL : LetsOut R → LetsOut R' := fun ⟨a, w, h⟩ => ⟨a, w, hR _ _ _ h⟩
  unfold Oper.wp at *
  generalize (execOp a.eval o).run P w = r at *
  cases r with
  | ok n w' =>
    cases n <;> simp only [Oper.upon] at h ⊢ <;>
      first
        | exact hN _ _ h
        | exact Calls.mono h (fun e w'' he => by cases e <;> first | exact hN _ _ he | exact hR _ _ _ he | exact hL he)
        | exact Rows.mono h (fun _ _ he => hN _ _ he)
  | halt x w' => cases x <;> simp only [Oper.upon] at h ⊢ <;> first | exact hR _ _ _ h | exact h
theorem tmps_get {t : Nat} {b : Bool} (hs : a.tmps.size = F.n) (h : a.tmps.getD t Go.undef = .bool b) : a.tmps[t]? = some (.bool b) := by
  rw [Array.getD_eq_getD_getElem?] at h
  cases hq : a.tmps[t]? with
  | none => rw [hq] at h; cases h
  | some v =>
    rw [hq] at h
    simp at h
    rw [h]
theorem want_ok {o : Oper} {b : Bool} (hR : Rel K F m s a w) (h : wantA ops s.sl o = some b) : Region.wanted o (yielded ops a.tmps) = b := by
  unfold wantA at h
  unfold Region.wanted
  split at h
  · rename_i hg
    rw [hg]
    injection h with h
  · rename_i j want hg
    rw [hg]
    dsimp only
    split at h
    · rename_i t ht
      have hsl := hR.slot t
      split at h
      · rename_i c e
        rw [e] at hsl
        injection h with h
        have hc : a.tmps.getD t Go.undef = .bool c := rs_v hsl
        have hy : yielded ops a.tmps j = some c := by
          unfold yielded
          rw [ht]
          simp only [Option.bind_some, tmps_get (F := F) hR.size hc]
        rw [hy, ← h]
        cases c <;> cases want <;> rfl
      · rename_i e
        rw [e] at hsl
        injection h with h
        have hc : a.tmps.getD t Go.undef = Go.undef := hsl
        have hy : yielded ops a.tmps j = none := by
          unfold yielded
          rw [ht]
          simp only [Option.bind_some]
          rw [Array.getD_eq_getD_getElem?] at hc
          cases hq : a.tmps[t]? with
          | none => rfl
          | some v =>
            rw [hq] at hc
            simp at hc
            subst hc
            rfl
        rw [hy, ← h]
        rfl
      · cases h
    · cases h
/-- One operation, really carried out. -/
theorem astep_ok {o : Oper} {Kc : List Nat → Out → Prop} (hR : Rel K F m s a w) (hd : ∀ d, o.dst = some d → d < F.n) (h : astep P G ops o s Kc) :
    (Region.wanted o (yielded ops a.tmps) = true ∧ ∃ rd out, Kc rd out ∧ OpGoal P K F s o a w out) ∨ (Region.wanted o (yielded ops a.tmps) = false ∧ Kc [] (.val .undef []) ∧ Rel K F m (s.app o.dst .undef []) (a.put o.dst Go.undef) w) := by
  unfold astep at h
  split at h
  · rename_i hw
    exact .inl ⟨want_ok hR hw, aop_sound hR hd [] _ h⟩
  · rename_i hw
    exact .inr ⟨want_ok hR hw, h, hR.put hd rfl⟩
  · exact h.elim
theorem Rel.panLift {v : Value} (h : ∃ m', Rel K F m' s a w) (hq : Q (.panic [{ v, recovered := false }]) s) : Lift K F Q (.panic [{ v, recovered := false }]) a w := by
  obtain ⟨m', h⟩ := h
  exact ⟨m', s, h, hq⟩
theorem arun_list : ∀ (l : List Oper) (s : FSt) (log : List (List Nat × List Nat)) (m : NM) (a : Act) (w : World), arun P G ops false (fun v s => Q (.panic [{ v, recovered := false }]) s) l s log (fun s => Q .normal s) → Rel K F m s a w → (∀ o ∈ l, ∀ d, o.dst = some d → d < F.n) → wpList P ops (Lift K F Q) l a w
  | [], s, log, m, a, w, h, hR, _ => ⟨m, s, hR, h.2⟩
  | o :: rest, s, log, m, a, w, h, hR, hd => by
    have ih := fun s log m a w h hR => arun_list rest s log m a w h hR fun o ho => hd o (List.mem_cons_of_mem _ ho)
    unfold wpList
    rcases astep_ok hR (hd o (List.mem_cons_self ..)) h with ⟨hw, rd, out, hk, hg⟩ | ⟨hw, hk, hg⟩
    · rw [if_pos hw]
      refine .inl ?_
      cases out with
      | val v U => exact Oper.wp_mono (fun a' w' ⟨m', hr⟩ => ih _ _ m' a' w' hk hr) (hg (Lift K F Q))
      | pan v U => exact Oper.wp_monoQ (fun _ _ h => h.elim) (fun e a' w' ⟨he, hr⟩ => by subst he; exact Rel.panLift hr hk.2) hg
    · rw [if_neg (by rw [hw]; simp)]
      exact ih _ _ m _ w hk hg
theorem sound_region {id : Nat} (hd : dstOk F.n ops = true) (h : arun P G ops false (fun v s => Q (.panic [{ v, recovered := false }]) s) ops.toList s [] (fun s => Q .normal s)) : Sound P K F (.region id ops false) Q s := fun m a w hR =>
  wp_region_list (arun_list _ _ _ m a w h hR fun o ho d e => by
    unfold dstOk at hd
    rw [Array.all_eq_true'] at hd
    have := hd o (by simpa using ho)
    rw [e] at this
    simpa using this)

/-! whatever order -/
theorem arun_runL {Qp : Value → FSt → Prop} {Kn : FSt → Prop} : ∀ (l : List Oper) (k : Nat) (s : FSt) (log : List (List Nat × List Nat)), (∀ j, l[j]? = ops[k + j]?) → arun P G ops true Qp l s log Kn →
    ∃ R s', RunL P G ops R s s' ∧ Kn s' ∧ R.map (·.1) = List.range' k l.length ∧ logOk ops (log.reverse ++ R.map (·.2)) = true
  | [], k, s, log, hl, h => ⟨[], s, rfl, h.2, rfl, by simpa using h.1 rfl⟩
  | o :: rest, k, s, log, hl, h => by
    have h0 : ops[k]? = some o := by simpa using (hl 0).symm
    have key : ∃ rd v U, astep P G ops o s (fun x y => x = rd ∧ y = .val v U) ∧ arun P G ops true Qp rest (s.app o.dst v U) ((rd, U.map (·.1)) :: log) Kn := by
      unfold arun at h
      unfold astep at h ⊢
      split at h
      · obtain ⟨rd, out, h1, h2⟩ := Q.run_elim h
        cases out with
        | val v U => exact ⟨rd, v, U, h2, h1⟩
        | pan v U => cases h1.1
      · exact ⟨[], .undef, [], ⟨rfl, rfl⟩, h⟩
      · exact h.elim
    obtain ⟨rd, v, U, h1, h2⟩ := key
    obtain ⟨R, s', h3, h4, h5, h6⟩ := arun_runL rest (k + 1) _ _ (fun j => by have := hl (j + 1); simpa [Nat.add_assoc, Nat.add_comm 1 j] using this) h2
    exact ⟨(k, rd, U.map (·.1)) :: R, s', ⟨_, ⟨o, v, U, h0, h1, rfl, rfl⟩, h3⟩, h4, by simp [h5, List.range'_succ], by simpa using h6⟩
/-- What an operation waits for has been, once all that it waits for at once has been. -/
theorem rch_listed {listed : Array Bool} (hcl : ∀ k, listed.getD k false = true → ∀ o, ops[k]? = some o → ∀ e ∈ o.after, Region.binds .any e = true → listed.getD e.on false = true) :
    ∀ (n i j : Nat) (o : Oper), ops[j]? = some o → (∀ e ∈ o.after, Region.binds .any e = true → listed.getD e.on false = true) → rch ops i n j = true → listed.getD i false = true
  | 0, _, _, _, _, _, h => by cases h
  | n + 1, i, j, o, ho, hall, h => by
    unfold rch at h
    rw [ho] at h
    simp only [Array.any_eq_true', Bool.and_eq_true, Bool.or_eq_true, beq_iff_eq] at h
    obtain ⟨e, he, hb, h | ⟨_, h⟩⟩ := h
    · rw [← h]
      exact hall e he hb
    · have h1 := hall e he hb
      cases hq : ops[e.on]? with
      | none =>
        cases n with
        | zero => cases h
        | succ n => unfold rch at h; rw [hq] at h; cases h
      | some o' => exact rch_listed hcl n i e.on o' hq (hcl e.on h1 o' hq) h
theorem any_of_run (hdst : dstOk F.n ops = true) : ∀ (fuel : Nat) (R : List (Nat × List Nat × List Nat)) (listed : Array Bool) (s s' : FSt) (m : NM) (a : Act) (w : World), R.length ≤ fuel → listed.size = ops.size →
    (∀ i, i < ops.size → (listed.getD i true = false ↔ i ∈ R.map (·.1))) → (∀ i ∈ R.map (·.1), i < ops.size) → (R.map (·.1)).Pairwise (· < ·) →
    (R.Pairwise fun x y => Apart ops x y ∨ rch ops x.1 5 y.1 = true) →
    (∀ k, listed.getD k false = true → ∀ o, ops[k]? = some o → ∀ e ∈ o.after, Region.binds .any e = true → listed.getD e.on false = true) →
    (∀ x ∈ R, ∀ o, ops[x.1]? = some o → ∀ e ∈ o.after, Region.binds .any e = true → e.on < x.1) →
    RunL P G ops R s s' → Q .normal s' → Rel K F m s a w → wpAny P .any ops (Lift K F Q) fuel listed a w := by
  intro fuel
  have ready : ∀ (R : List (Nat × List Nat × List Nat)) (listed : Array Bool) (i : Nat), (∀ i, i < ops.size → (listed.getD i true = false ↔ i ∈ R.map (·.1))) → i ∈ Region.ready .any ops listed → i ∈ R.map (·.1) := fun R listed i hl hi => by
    obtain ⟨h1, o, ho, _⟩ := mem_ready.1 hi
    exact (hl i (Array.getElem?_eq_some_iff.1 ho).1).1 h1
  induction fuel with
  | zero =>
    intro R listed s s' m a w hlen hsz hl hb hp hA hcl hdep hrun hq hR
    obtain rfl : R = [] := List.eq_nil_of_length_eq_zero (by omega)
    have hs : s = s' := hrun
    subst hs
    refine ⟨?_, m, s, hR, hq⟩
    cases hr : Region.ready .any ops listed with
    | nil => rfl
    | cons i l =>
      have := ready [] listed i hl (by rw [hr]; exact List.mem_cons_self ..)
      simp at this
  | succ fuel ih =>
    intro R listed s s' m a w hlen hsz hl hb hp hA hcl hdep hrun hq hR
    refine ⟨fun hnil => ?_, fun i hi => ?_⟩
    · cases R with
      | nil =>
        have hs : s = s' := hrun
        subst hs
        exact ⟨m, s, hR, hq⟩
      | cons x R =>
        exfalso
        have hx := hb x.1 (by simp)
        have ho : ops[x.1]? = some ops[x.1] := Array.getElem?_eq_getElem hx
        have : x.1 ∈ Region.ready .any ops listed := by
          refine mem_ready.2 ⟨(hl x.1 hx).2 (by simp), _, ho, fun e he hbd => ?_⟩
          have hlt := hdep x (List.mem_cons_self ..) _ ho e he hbd
          cases hg : listed.getD e.on false with
          | true => rfl
          | false =>
            have hg' : listed.getD e.on true = false := by
              have hin : e.on < listed.size := by omega
              simp only [Array.getD_eq_getD_getElem?, Array.getElem?_eq_getElem hin, Option.getD_some] at hg ⊢
              exact hg
            have hm := (hl e.on (by omega)).1 hg'
            rw [List.map_cons] at hp hm
            rcases List.mem_cons.1 hm with h | h
            · omega
            · have := (List.pairwise_cons.1 hp).1 _ h
              omega
        rw [hnil] at this
        cases this
    · have hmem := ready R listed i hl hi
      obtain ⟨hun, o, ho, hall⟩ := mem_ready.1 hi
      obtain ⟨y, hy, rfl⟩ := List.mem_map.1 hmem
      obtain ⟨l1, l2, rfl⟩ := List.append_of_mem hy
      have hfront : ∀ x ∈ l1, Apart ops x y := fun x hx => by
        have h1 := (List.pairwise_append.1 hA).2.2 x hx y (List.mem_cons_self ..)
        rcases h1 with h1 | h1
        · exact h1
        · exfalso
          have h2 := rch_listed hcl 5 x.1 y.1 o ho hall h1
          have hxb := hb x.1 (by simp only [List.map_append]; exact List.mem_append_left _ (List.mem_map_of_mem hx))
          have h3 := (hl x.1 hxb).2 (by simp only [List.map_append]; exact List.mem_append_left _ (List.mem_map_of_mem hx))
          have hin : x.1 < listed.size := by omega
          simp only [Array.getD_eq_getD_getElem?, Array.getElem?_eq_getElem hin, Option.getD_some] at h2 h3
          rw [h2] at h3
          cases h3
      obtain ⟨s1, ⟨o', v, U, ho', hst, hwr, hs1⟩, hrun'⟩ := move_front hfront hrun
      rw [ho] at ho'
      injection ho' with ho'
      subst ho'
      have hin : y.1 < ops.size := (Array.getElem?_eq_some_iff.1 ho).1
      have hsub : (l1 ++ l2).Sublist (l1 ++ y :: l2) := List.Sublist.append (List.Sublist.refl _) (List.sublist_cons_self _ _)
      have hnd : y.1 ∉ (l1 ++ l2).map (·.1) := fun h => by
        rw [List.map_append, List.map_cons] at hp
        obtain ⟨p1, p2, p3⟩ := List.pairwise_append.1 hp
        rw [List.map_append] at h
        rcases List.mem_append.1 h with h | h
        · have := p3 _ h _ (List.mem_cons_self ..)
          omega
        · have := (List.pairwise_cons.1 p2).1 _ h
          omega
      have next : ∀ m' a' w', Rel K F m' s1 a' w' → wpAny P .any ops (Lift K F Q) fuel (listed.setIfInBounds y.1 true) a' w' := fun m' a' w' hR' => by
        refine ih (l1 ++ l2) _ s1 s' m' a' w' ?_ (by simpa using hsz) (fun k hk => ?_) (fun k hk => hb k ?_) (hp.sublist (hsub.map _)) (hA.sublist hsub) (fun k hk o' ho' e he hbd => ?_) (fun x hx => hdep x (hsub.subset hx)) hrun' hq hR'
        · simp only [List.length_append, List.length_cons] at hlen ⊢
          omega
        · by_cases e : y.1 = k
          · subst e
            have h4 : (listed.setIfInBounds y.1 true).getD y.1 true = true := by
              simp [show y.1 < listed.size by omega]
            rw [h4]
            exact ⟨(fun h => by cases h), fun h => absurd h hnd⟩
          · rw [getD_set_ne true e, hl k hk]
            simp only [List.map_append, List.map_cons, List.mem_append, List.mem_cons]
            exact ⟨fun h => h.elim .inl fun h => h.elim (fun h => absurd h.symm e) .inr, fun h => h.elim .inl fun h => .inr (.inr h)⟩
        · exact (hsub.map _).subset hk
        · have mono : ∀ k, listed.getD k false = true → (listed.setIfInBounds y.1 true).getD k false = true := fun k h => by
            by_cases e : y.1 = k
            · subst e
              simp [show y.1 < listed.size by omega]
            · rw [getD_set_ne false e]
              exact h
          refine mono _ ?_
          by_cases e' : y.1 = k
          · subst e'
            rw [ho] at ho'
            injection ho' with ho'
            subst ho'
            exact hall e he hbd
          · rw [getD_set_ne false e'] at hk
            exact hcl k hk o' ho' e he hbd
      have hdo : ∀ d, o.dst = some d → d < F.n := fun d e => by
        unfold dstOk at hdst
        rw [Array.all_eq_true'] at hdst
        have := hdst o (Array.mem_of_getElem? ho)
        rw [e] at this
        simpa using this
      unfold wpOp
      rw [ho]
      dsimp only
      rcases astep_ok hR hdo hst with ⟨hw, rd, out, ⟨rfl, rfl⟩, hg⟩ | ⟨hw, ⟨_, hk⟩, hg⟩
      · rw [if_pos hw]
        refine .inl (Oper.wp_mono (fun a' w' ⟨m', hr⟩ => next m' a' w' ?_) (hg (Lift K F Q)))
        rw [hs1]
        exact hr
      · rw [if_neg (by rw [hw]; simp)]
        injection hk with h1 h2
        subst h1 h2
        refine next m _ w ?_
        rw [hs1]
        exact hg
theorem Rel.drew (h : Rel K F m s a w) : Rel K F m s a { w with drawn := w.drawn + 1 } := by
  have := h.later (dst := none) (v := .bot) (u := Go.undef) (w' := { w with drawn := w.drawn + 1 }) ⟨rfl, rfl, rfl, Nat.le_refl _, fun _ _ _ => rfl⟩ (fun _ e => by cases e) trivial
  exact this
theorem logOk_spec {R : List (Nat × List Nat × List Nat)} (hR : R.map (·.1) = List.range' 0 ops.size) (h : logOk ops (R.map (·.2)) = true) :
    (R.Pairwise fun x y => Apart ops x y ∨ rch ops x.1 5 y.1 = true) ∧ ∀ x ∈ R, ∀ o, ops[x.1]? = some o → ∀ e ∈ o.after, Region.binds .any e = true → e.on < x.1 := by
  have hlen : R.length = ops.size := by
    have := congrArg List.length hR
    simpa using this
  have hidx : ∀ (i : Nat) x, R[i]? = some x → x.1 = i := fun i x hx => by
    have h1 : (R.map (·.1))[i]? = some x.1 := by simp [hx]
    rw [hR, List.getElem?_range' (by have := (List.getElem?_eq_some_iff.1 hx).1; omega)] at h1
    simpa using h1.symm
  unfold logOk at h
  simp only [List.all_eq_true, List.mem_range, Bool.and_eq_true, List.length_map] at h
  have hget : ∀ (i : Nat) x, R[i]? = some x → (R.map (·.2)).getD i ([], []) = x.2 := fun i x hx => by simp [List.getD, hx]
  refine ⟨?_, fun x hx o ho e he hb => ?_⟩
  · rw [List.pairwise_iff_getElem]
    intro i j hi hj hij
    have hxi : R[i]? = some R[i] := List.getElem?_eq_getElem hi
    have hxj : R[j]? = some R[j] := List.getElem?_eq_getElem hj
    have h1 := (h j hj).1 i hij
    rw [hget i _ hxi, hget j _ hxj] at h1
    have ei := hidx i _ hxi
    have ej := hidx j _ hxj
    generalize R[i] = x at *
    generalize R[j] = y at *
    subst ei ej
    unfold pairOk at h1
    split at h1
    · rename_i oi oj e1 e2
      simp only [Bool.or_eq_true, Bool.and_eq_true, List.all_eq_true, Bool.not_eq_true'] at h1
      rcases h1 with ⟨⟨h1, h2⟩, h3⟩ | h1
      · exact .inl ⟨oi, oj, e1, e2, h1, fun r hr => by
          have := h2 r hr
          simpa [List.contains_iff_mem] using this, fun r hr => by
          have := h3 r hr
          simpa [List.contains_iff_mem] using this⟩
      · exact .inr h1
    · cases h1
  · obtain ⟨j, hj⟩ := List.getElem?_of_mem hx
    have hlt := (List.getElem?_eq_some_iff.1 hj).1
    have ej := hidx j x hj
    have h1 := (h j hlt).2
    rw [ej] at ho
    rw [ho] at h1
    simp only [Option.map_some, Option.getD_some, Array.all_eq_true', Bool.or_eq_true, Bool.not_eq_true', decide_eq_true_eq] at h1
    have := h1 e he
    rw [hb] at this
    rw [ej]
    exact this.resolve_left (by simp)
theorem sound_drawn {id : Nat} (hm : P.follows .mixedOrders = true) (hd : dstOk F.n ops = true) (h : arun P G ops true (fun v s => Q (.panic [{ v, recovered := false }]) s) ops.toList s [] (fun s => Q .normal s)) : Sound P K F (.region id ops true) Q s := fun m a w hR => by
  obtain ⟨R, s', h1, h2, h3, h4⟩ := arun_runL ops.toList 0 s [] (by simp) h
  rw [Array.length_toList] at h3
  simp only [List.reverse_nil, List.nil_append] at h4
  obtain ⟨h5, h6⟩ := logOk_spec h3 h4
  have hlen : R.length = ops.size := by
    have := congrArg List.length h3
    simpa using this
  have hmem : ∀ i, i ∈ R.map (·.1) ↔ i < ops.size := fun i => by
    rw [h3, List.mem_range'_1]
    omega
  refine wp_region_any hm (any_of_run hd ops.size R _ s s' m a _ (by omega) (by simp) (fun i hi => ?_) (fun i hi => (hmem i).1 hi) ?_ h5 (fun k hk => ?_) h6 h1 h2 hR.drew)
  · rw [hmem]
    simp [hi]
  · rw [h3]
    exact List.pairwise_lt_range'
  · simp only [Array.getD_eq_getD_getElem?, Array.getElem?_replicate] at hk
    split at hk <;> cases hk
end
end Go.Proofs.YtdakeodebgggfaaDoor

/- A machine of values, 16: what is said of a function follows from its body. -/
namespace Go.Proofs.YtdakeodebgggfaaDoor
open Go.RowKit
set_option linter.unusedVariables false
set_option linter.unusedSimpArgs false

/-- The results' values. -/
def resQ (P : Program) (f : Nat → SV) : List ResultVar → (List SV → Q) → Q
  | [], k => k []
  | .tmp t :: l, k => resQ P f l fun vs => k (f t :: vs)
  | .cell t ty :: l, k => match f t with
    | .a (.c (.ptr r off)) => .need (tyok P ty = true) (.obj r fun o => match (kdOf P ty).agg with
      | true => .need (off + szOf P ty ≤ o.cs.length) (resQ P f l fun vs => k (.a (.agg ((o.cs.drop off).take (szOf P ty))) :: vs))
      | false => match o.cs[off]? with
        | some x => resQ P f l fun vs => k (.a (.c x) :: vs)
        | none => .fail)
    | _ => .fail
def outOf : List DV → DR
  | [x] => .one x
  | l => .many l
/-- A function has come to its end, with that outcome. -/
def Ret (P : Program) (rl : List ResultVar) (out : DR) : Exit → FSt → Prop
  | .normal, s | .ret, s => (resQ P s.sl rl fun vs => cvArgs vs fun ds _ => .need (outOf ds = out) (.done .bot [])).run s.ob [] (fun _ _ => True)
  | .panic chain, s => ∃ v, chain = [{ v, recovered := false }] ∧ out = .pan v
  | _, _ => False
def initL : Nat → List DV → List (Nat × SV)
  | _, [] => []
  | k, x :: l => (k, .a x.av) :: initL (k + 1) l

/-- A result, read. -/
def resSem (tmps : Array Value) : ResultVar → Sem Value
  | .tmp t => pure (tmps.getD t Go.undef)
  | .cell a t => do loadVar t (← asAddr (tmps.getD a Go.undef))
def outV : List Value → Value
  | [u] => u
  | l => .tuple l.toArray

section
variable {G : Nat → Option (List D)} {P : Program} {K : Ctx G} {F : Fr} {s : FSt} {m : NM} {a : Act} {w : World}
theorem ok_res (hR : Rel K F m s a w) {Good : Out → Prop} : ∀ (l : List ResultVar) (k : List SV → Q),
    (∀ vs us, (l.mapM (resSem a.tmps)).run P w = .ok us w → us.length = vs.length → (∀ (i : Nat) x v, vs[i]? = some x → us[i]? = some v → RS w (Vis K m s.ob w) m s.ob.dom x v) → QG s Good (k vs)) → QG s Good (resQ P s.sl l k)
  | [], k, h => h [] [] (by simp) rfl fun i x v hx => by simp at hx
  | .tmp t :: l, k, h => ok_res hR l _ fun vs us h1 h2 h3 => h (s.sl t :: vs) (a.tmps.getD t Go.undef :: us) (by simp only [List.mapM_cons, Sem.run_bind, resSem, Sem.run_pure, Result.andThen_ok]; rw [h1]; rfl) (by simp [h2]) fun i x v hx hv => by
    cases i with
    | zero =>
      simp at hx hv
      subst hx hv
      exact (by simpa using hR.slot t)
    | succ i => exact h3 i x v (by simpa using hx) (by simpa using hv)
  | .cell t ty :: l, k, h => by
    have hv := hR.slot t
    unfold resQ
    split
    · rename_i r off e
      rw [e] at hv
      obtain ⟨_, hvd, hu⟩ := rs_ptr hv
      refine .need fun ht => .obj fun ob ho => ?_
      obtain ⟨i, z, T⟩ := tyok_spec ht
      obtain ⟨arr, h1, h2, h3, h4, h5⟩ := hR.obj ho hvd
      cases hk : (kdOf P ty).agg with
      | true =>
        refine .need fun hle => ok_res hR l _ fun vs us g1 g2 g3 => ?_
        have hload : (loadVar ty ⟨m.g r, off, none⟩).run P w = .ok (.agg ((arr.toList.drop off).take (szOf P ty)).toArray) w := by
          simp only [loadVar, Sem.run_bind, run_isAgg T, Result.andThen_ok, hk, if_true, run_sizeOf T]
          have hl : ((arr.toList.drop off).take (szOf P ty)).length = szOf P ty := by
            simp only [List.length_take, List.length_drop, Array.length_toList]
            omega
          have := run_loadCells_list (P := P) w ⟨m.g r, off, none⟩ ((arr.toList.drop off).take (szOf P ty)) fun j v hj => by
            rw [List.getElem?_take] at hj
            split at hj
            · rw [List.getElem?_drop] at hj
              rw [Addr.add_lit, cell_arr h1]
              simpa using hj
            · cases hj
          rw [hl] at this
          rw [this]
          rfl
        refine h _ (.agg ((arr.toList.drop off).take (szOf P ty)).toArray :: us) ?_ (by simp [g2]) fun i x v hx hv => ?_
        · have hres : (resSem a.tmps (.cell t ty)).run P w = .ok (.agg ((arr.toList.drop off).take (szOf P ty)).toArray) w := by
            simp only [resSem, Sem.run_bind, hu, asAddr, Sem.run_pure, Result.andThen_ok, hload]
          simp only [List.mapM_cons, Sem.run_bind, hres, Result.andThen_ok, g1]
          rfl
        · cases i with
          | succ i => exact g3 i x v (by simpa using hx) (by simpa using hv)
          | zero =>
            simp at hx hv
            subst hx hv
            refine ⟨_, rfl, ?_, fun j y v hy hv => ?_⟩
            · simp only [List.length_take, List.length_drop, Array.length_toList]
              omega
            · rw [List.getElem?_take] at hy hv
              split at hy
              · rename_i hj
                rw [if_pos hj, List.getElem?_drop] at hv
                rw [List.getElem?_drop] at hy
                obtain ⟨u, hu, hr⟩ := h5 _ _ hy
                have : arr[off + j]? = some v := by simpa using hv
                rw [hu] at this
                injection this with this
                subst this
                exact hr
              · cases hy
      | false =>
        dsimp only
        split
        · rename_i y hy
          obtain ⟨u, hu2, hr⟩ := h5 _ _ hy
          refine ok_res hR l _ fun vs us g1 g2 g3 => h _ (u :: us) ?_ (by simp [g2]) fun i x v hx hv => ?_
          · have hload : (loadVar ty ⟨m.g r, off, none⟩).run P w = .ok u w := by
              simp only [loadVar, Sem.run_bind, run_isAgg T, Result.andThen_ok, hk, Bool.false_eq_true, if_false]
              exact run_load_one (by rw [cell_arr h1]; exact hu2)
            have hres : (resSem a.tmps (.cell t ty)).run P w = .ok u w := by
              simp only [resSem, Sem.run_bind, hu, asAddr, Sem.run_pure, Result.andThen_ok, hload]
            simp only [List.mapM_cons, Sem.run_bind, hres, Result.andThen_ok, g1]
            rfl
          · cases i with
            | succ i => exact g3 i x v (by simpa using hx) (by simpa using hv)
            | zero =>
              simp at hx hv
              subst hx hv
              exact hr
        · exact .fail
    · exact .fail
theorem run_results {fn : Func} {us : List Value} (h : (fn.results.toList.mapM (resSem a.tmps)).run P w = .ok us w) : (results fn a.tmps).run P w = .ok (outV us) w := by
  show (do let vs ← fn.results.mapM (resSem a.tmps); pure (if h : vs.size = 1 then vs[0] else .tuple vs) : Sem Value).run P w = _
  rw [Array.mapM_eq_mapM_toList, map_eq_pure_bind, Sem.run_bind, Sem.run_bind, h]
  match us with
  | [] => rfl
  | [u] => rfl
  | u :: v :: l => simp [outV]
theorem initL_get : ∀ (args : List DV) (k t : Nat), lkS (initL k args) t = if k ≤ t then (match args[t - k]? with | some x => .a x.av | none => .bot) else .bot
  | [], k, t => by simp [initL, lkS]
  | x :: l, k, t => by
    simp only [initL, lkS]
    split
    · rename_i h
      subst h
      simp
    · rename_i h
      rw [initL_get l (k + 1) t]
      by_cases h1 : k ≤ t
      · rw [if_pos h1, if_pos (by omega), show t - k = t - (k + 1) + 1 by omega]
        simp
      · rw [if_neg h1, if_neg (by omega)]
/-- What is said of a function, from its body. -/
theorem spec_of' {f : FuncId} {fn : Func} {c : Code} {args : List DV} {out : DR} (hf : P.funcs[f]? = some fn) (hb : fn.body = some c) (hn : Nat.ble args.length fn.ntmps = true)
    (h : ∀ K : Ctx G, (∀ b, ¬ K.B b) → Sound P K ⟨fn.ntmps, ⟨fun _ => 0, fun _ => 0, fun _ => false⟩, fun _ => False⟩ c (Ret P fn.results.toList out) (LSt.mk (initL 0 args) []).st) : Spec0 P G f args out := by
  have hn := Nat.le_of_ble_eq_true hn
  intro w S vs hS hT hA
  obtain ⟨hl, hc⟩ := hA
  let K : Ctx G := ⟨w, S, fun _ => False⟩
  have hH : HRel K ⟨fun _ => 0, fun _ => 0, fun _ => false⟩ (lkO []) w := by
    refine ⟨fun r o ho => ?_, fun r r' ⟨o, ho, _⟩ => ?_, fun r ⟨o, ho, _⟩ => ?_, fun r o ho => ?_, Ev.refl _ _, fun g cs hg => (hT g cs hg).mono (fun b hb => ⟨.inl hb, hS b hb, fun r ⟨o, ho, _⟩ => ?_⟩) (fun _ _ => rfl)⟩ <;> cases ho
  have hR : Rel K ⟨fn.ntmps, ⟨fun _ => 0, fun _ => 0, fun _ => false⟩, fun _ => False⟩ ⟨fun _ => 0, fun _ => 0, fun _ => false⟩ (LSt.mk (initL 0 args) []).st { tmps := vs.toArray ++ Array.replicate (fn.ntmps - vs.toArray.size) Go.undef, defers := [] } w := by
    refine ⟨by simp; omega, rfl, fun t => ?_, hH, fun r h => h.elim⟩
    show RS w _ _ _ (lkS (initL 0 args) t) _
    rw [initL_get, if_pos (Nat.zero_le _), Nat.sub_zero]
    cases hx : args[t]? with
    | none => trivial
    | some x =>
      have hlt : t < vs.length := by
        rw [hl]
        exact (List.getElem?_eq_some_iff.1 hx).1
      have hg : (vs.toArray ++ Array.replicate (fn.ntmps - vs.toArray.size) Go.undef).getD t Go.undef = vs[t] := by
        rw [Array.getD_eq_getD_getElem?, Array.getElem?_append, if_pos (by simpa using hlt)]
        simp [hlt]
      rw [hg]
      have := hc t x _ hx (List.getElem?_eq_getElem hlt)
      refine ra_of_drd ?_
      have hvis : ∀ b, S b → Vis K ⟨fun _ => 0, fun _ => 0, fun _ => false⟩ (lkO []) w b := fun b hb => ⟨.inl hb, hS b hb, fun r ⟨o, ho, _⟩ => by cases ho⟩
      cases x with
      | c x => exact RD.mono hvis (fun _ _ => rfl) this
      | g cs =>
        obtain ⟨us, e, hl, hcc⟩ := this
        exact ⟨us, e, hl, fun i x v hx hv => RD.mono hvis (fun _ _ => rfl) (hcc i x v hx hv)⟩
  refine calls_of_wp hf hb (wp_mono (h K (fun _ h => h) _ _ _ hR) fun e a' w' ⟨m', s', hR', hq⟩ => ?_)
  have ret : ((resQ P s'.sl fn.results.toList fun vs => cvArgs vs fun ds _ => .need (outOf ds = out) (.done .bot [])).run s'.ob [] (fun _ _ => True)) → a'.defers = [] ∧ ∃ v, (results fn a'.tmps).run P w' = .ok v w' ∧ Ev (fun _ => False) w w' ∧ DEnd w' (fun b => S b ∨ (w.heap.size ≤ b ∧ b < w'.heap.size)) out (.returned v) := by
    intro hq
    refine ⟨hR'.defers, ?_⟩
    have key : QG s' (fun _ => ∃ v, (results fn a'.tmps).run P w' = .ok v w' ∧ Ev (fun _ => False) w w' ∧ DEnd w' (fun b => S b ∨ (w.heap.size ≤ b ∧ b < w'.heap.size)) out (.returned v)) (resQ P s'.sl fn.results.toList fun vs => cvArgs vs fun ds _ => .need (outOf ds = out) (.done .bot [])) := by
      refine ok_res hR' _ _ fun vs us g1 g2 g3 => ok_cvArgs hR' g2 g3 fun ds U hcv => .need fun ho => .done ⟨_, run_results g1, ?_, ?_⟩
      · exact ⟨hR'.heap.ev.os, hR'.heap.ev.tape, hR'.heap.ev.output, hR'.heap.ev.size, fun k hk _ => hR'.heap.ev.block k hk fun h => h⟩
      · obtain ⟨hf1, hf2⟩ := hcv
        obtain ⟨k1, k2, k3, _⟩ := Rel.freezeAll (s := s') U s' hR' rfl (fun r x hx => .inl hx) hf1 (fun b hb => hb)
        obtain ⟨hd1, hd2⟩ := hf2 _ k1.heap k2 k3
        have hvis : ∀ b, Vis K m' (updO s'.ob U) w' b → S b ∨ (w.heap.size ≤ b ∧ b < w'.heap.size) := fun b hb => hb.1.elim .inl fun h => h.elim (fun h => h.elim) fun h => .inr ⟨h, hb.2.1⟩
        have hd3 : ∀ (i : Nat) x v, ds[i]? = some x → us[i]? = some v → DRd w' (fun b => S b ∨ (w.heap.size ≤ b ∧ b < w'.heap.size)) x v := fun i x v hx hv => by
          have := hd2 i x v hx hv
          cases x with
          | c x => exact RD.mono hvis (fun _ _ => rfl) this
          | g cs =>
            obtain ⟨us, e, hl, hcc⟩ := this
            exact ⟨us, e, hl, fun i x v hx hv => RD.mono hvis (fun _ _ => rfl) (hcc i x v hx hv)⟩
        rw [← ho]
        match ds, us, hd1 with
        | [], [], _ => exact ⟨[], rfl, rfl, fun i x v hx => by simp at hx⟩
        | [x], [u], _ => exact ⟨u, rfl, hd3 0 x u rfl rfl⟩
        | x :: y :: l, u :: v :: us, hl => exact ⟨_, rfl, hl, hd3⟩
    exact (key [] _ hq).elim fun _ h => h.elim fun _ h => h.2
  cases e with
  | normal => exact ret hq
  | ret => exact ret hq
  | panic chain =>
    obtain ⟨v, rfl, rfl⟩ := hq
    exact ⟨hR'.defers, ⟨hR'.heap.ev.os, hR'.heap.ev.tape, hR'.heap.ev.output, hR'.heap.ev.size, fun k hk _ => hR'.heap.ev.block k hk fun h => h⟩, rfl⟩
  | exit id => exact hq
  | goto l => exact hq
  | outgrown => exact hq.elim
def Fr0 (n : Nat) : Fr := ⟨n, ⟨fun _ => 0, fun _ => 0, fun _ => false⟩, fun _ => False⟩
theorem spec_of {f : FuncId} {fn : Func} {c : Code} {args : List DV} {out : DR} {rl : List ResultVar} {n : Nat} (hf : P.funcs[f]? = some fn) (hb : fn.body = some c) (hr : fn.results = ⟨rl⟩) (hn : fn.ntmps = n) (ha : Nat.ble args.length n = true) (hp : out.plain = true)
    (h : ∀ K : Ctx G, Sound P K (Fr0 n) c (Ret P rl out) (LSt.mk (initL 0 args) []).st) : Spec P G f args out := by
  subst hn
  exact .mk0 hp (spec_of' hf hb ha fun K _ => by rw [hr]; exact h K)
/-! functions that are handed objects -/
def svOf : List DV → SV
  | [x] => .a x.av
  | l => .tup (l.map DV.av)
def rawOf : List SV → SV
  | [x] => x
  | _ => .bot
def offU (H' : List (Nat × Option AObj)) : List (Nat × Option AObj) → Prop
  | [] => True
  | (r, _) :: l => (lkO H' r).isNone = true ∧ offU H' l
theorem lkO_off : ∀ {l : List (Nat × Option AObj)} {r : Nat}, (lkO l r).isNone = true → r ∉ l.map (·.1)
  | [], r, _ => by simp
  | (k, v) :: l, r, h => by
    unfold lkO at h
    split at h
    · cases h
    · rename_i hne
      rw [List.map_cons, List.mem_cons, not_or]
      exact ⟨hne, lkO_off h⟩
theorem offU_ok {H' : List (Nat × Option AObj)} : ∀ {U : List (Nat × Option AObj)}, offU H' U → ∀ p ∈ U, p.1 ∉ H'.map (·.1)
  | (r, o) :: l, h, p, hp => by
    rcases List.mem_cons.1 hp with rfl | hp
    · exact lkO_off h.1
    · exact offU_ok h.2 p hp
def RetO (P : Program) (rl : List ResultVar) (out : OutO) : Exit → FSt → Prop
  | .normal, s | .ret, s => match out with
    | .ret v H' => (∀ p ∈ H', s.ob p.1 = some p.2) ∧ (resQ P s.sl rl fun vs => .any Bool fun raw => match raw with
      | true => .need (rawOf vs = v ∧ vs.length = 1 ∧ ∀ r ∈ v.names, lkO H' r ≠ none) (.done .bot [])
      | false => cvArgs vs fun ds U => .need (svOf ds = v ∧ offU H' U) (.done .bot [])).run s.ob [] (fun _ _ => True)
    | .pan _ _ => False
  | .panic chain, s => match out with
    | .pan v H' => chain = [{ v, recovered := false }] ∧ ∀ p ∈ H', s.ob p.1 = some p.2
    | .ret _ _ => False
  | _, _ => False
def initA : Nat → List AV → List (Nat × SV)
  | _, [] => []
  | k, x :: l => (k, .a x) :: initA (k + 1) l
theorem initA_get : ∀ (args : List AV) (k t : Nat), lkS (initA k args) t = if k ≤ t then (match args[t - k]? with | some x => .a x | none => .bot) else .bot
  | [], k, t => by simp [initA, lkS]
  | x :: l, k, t => by
    simp only [initA, lkS]
    split
    · rename_i h
      subst h
      simp
    · rename_i h
      rw [initA_get l (k + 1) t]
      by_cases h1 : k ≤ t
      · rw [if_pos h1, if_pos (by omega), show t - k = t - (k + 1) + 1 by omega]
        simp
      · rw [if_neg h1, if_neg (by omega)]
theorem HRel.less {H H' : Hp} (h : HRel K m H w) (hob : ∀ r o, H' r = some o → H r = some o) (hn : ∀ r o, H' r = some (some o) → (dOnly o.cs).isSome = true) : HRel K m H' w ∧ ∀ b, Vis K m H w b → Vis K m H' w b := by
  have how : ∀ r, H'.own r → H.own r := fun r ⟨o, h1, h2⟩ => ⟨o, hob _ _ h1, h2⟩
  have hv : ∀ b, Vis K m H w b → Vis K m H' w b := fun b hb => ⟨hb.1, hb.2.1, fun r hr => hb.2.2 r (how r hr)⟩
  exact ⟨⟨fun r o ho => (h.obj r o (hob _ _ ho)).data (hn r o ho) hv rfl rfl rfl, fun r r' hr hr' => h.dist r r' (how r hr) (how r' hr'), fun r hr => h.loc r (how r hr),
    fun r o ho hf hvd => hv _ (h.fz r o (hob _ _ ho) hf hvd), h.ev, fun g cs hg => (h.glob g cs hg).mono hv (fun _ _ => rfl)⟩, hv⟩
def FrO (n : Nat) (m : NM) (l : List Nat) : Fr := ⟨n, m, fun r => r ∈ l⟩
theorem specO_of {f : FuncId} {fn : Func} {c : Code} {args : List AV} {H : List (Nat × AObj)} {out : OutO} {rl : List ResultVar} {n : Nat} (hf : P.funcs[f]? = some fn) (hb : fn.body = some c) (hr : fn.results = ⟨rl⟩) (hn : fn.ntmps = n) (ha : Nat.ble args.length n = true)
    (hd : ∀ p ∈ out.hp, ∀ x, p.2 = some x → (dOnly x.cs).isSome = true) (hk : ∀ r ∈ H.map (·.1), lkO out.hp r ≠ none)
    (h : ∀ (K : Ctx G) (m : NM), Sound P K (FrO n m (H.map (·.1))) c (RetO P rl out) ⟨lkS (initA 0 args), lkO (someO H)⟩) : SpecO P G f args H out := by
  subst hn
  have ha := Nat.le_of_ble_eq_true ha
  intro K m vs hS hB hH hl hc
  have hR : Rel K (FrO fn.ntmps m (H.map (·.1))) m ⟨lkS (initA 0 args), lkO (someO H)⟩ { tmps := vs.toArray ++ Array.replicate (fn.ntmps - vs.toArray.size) Go.undef, defers := [] } K.w0 := by
    refine ⟨by simp [FrO]; omega, rfl, fun t => ?_, hH, fun r h => ⟨?_, rfl, rfl, rfl⟩⟩
    · show RS K.w0 _ _ _ (lkS (initA 0 args) t) _
      rw [initA_get, if_pos (Nat.zero_le _), Nat.sub_zero]
      cases hx : args[t]? with
      | none => trivial
      | some x =>
        have hlt : t < vs.length := by
          rw [hl]
          exact (List.getElem?_eq_some_iff.1 hx).1
        have hg : (vs.toArray ++ Array.replicate (fn.ntmps - vs.toArray.size) Go.undef).getD t Go.undef = vs[t] := by
          rw [Array.getD_eq_getD_getElem?, Array.getElem?_append, if_pos (by simpa using hlt)]
          simp [hlt]
        rw [hg]
        exact hc t x _ hx (List.getElem?_eq_getElem hlt)
    · have h : r ∈ H.map (·.1) := h
      show lkO (someO H) r ≠ none
      have key : ∀ l : List (Nat × AObj), r ∈ l.map (·.1) → lkO (someO l) r ≠ none := by
        intro l
        induction l with
        | nil => intro h
                 cases h
        | cons p l ih =>
          intro h
          show (if r = p.1 then some (some p.2) else lkO (someO l) r) ≠ none
          split
          · simp
          · rename_i hne
            exact ih ((List.mem_cons.1 h).resolve_left hne)
      exact key H h
  refine calls_of_wp hf hb (wp_mono (h K m _ _ _ hR) fun e a' w' ⟨m', s', hR', hq⟩ => ?_)
  have hname : ∀ r, (lkO (someO H)).dom r → (lkO out.hp).dom r ∧ m'.g r = m.g r ∧ m'.N r = m.N r ∧ m'.vd r = m.vd r := fun r hr => by
    obtain ⟨x, hx⟩ := Option.ne_none_iff_exists'.1 hr
    obtain ⟨y, _, hy⟩ := someO_mem hx
    have hm : r ∈ H.map (·.1) := List.mem_map.2 ⟨_, hy, rfl⟩
    exact ⟨hk r hm, (hR'.names r hm).2⟩
  have retn : ∀ v H', out = .ret v H' → ((∀ p ∈ H', s'.ob p.1 = some p.2) ∧ (resQ P s'.sl rl fun vs => .any Bool fun raw => match raw with
      | true => .need (rawOf vs = v ∧ vs.length = 1 ∧ ∀ r ∈ v.names, lkO H' r ≠ none) (.done .bot [])
      | false => cvArgs vs fun ds U => .need (svOf ds = v ∧ offU H' U) (.done .bot [])).run s'.ob [] (fun _ _ => True)) →
      a'.defers = [] ∧ ∃ u, (results fn a'.tmps).run P w' = .ok u w' ∧ ∃ m', HRel K m' (lkO H') w' ∧ (∀ r, (lkO (someO H)).dom r → (lkO H').dom r ∧ m'.g r = m.g r ∧ m'.N r = m.N r ∧ m'.vd r = m.vd r) ∧ ∃ u', Ending.returned u = .returned u' ∧ RS w' (Vis K m' (lkO H') w') m' (lkO H').dom v u' := by
    rintro v H' rfl ⟨hob, hq⟩
    refine ⟨hR'.defers, ?_⟩
    have hl1 := HRel.less (H' := lkO H') hR'.heap (fun r o ho => hob (r, o) (lkO_mem ho)) (fun r o ho => hd (r, some o) (lkO_mem ho) o rfl)
    have key : QG s' (fun _ => ∃ u, (results fn a'.tmps).run P w' = .ok u w' ∧ RS w' (Vis K m' (lkO H') w') m' (lkO H').dom v u) (resQ P s'.sl rl fun vs => .any Bool fun raw => match raw with
      | true => .need (rawOf vs = v ∧ vs.length = 1 ∧ ∀ r ∈ v.names, lkO H' r ≠ none) (.done .bot [])
      | false => cvArgs vs fun ds U => .need (svOf ds = v ∧ offU H' U) (.done .bot [])) := by
      refine ok_res hR' _ _ fun vs us g1 g2 g3 => .any fun raw => ?_
      have g1' : (results fn a'.tmps).run P w' = .ok (outV us) w' := run_results (by rw [hr]; exact g1)
      cases raw with
      | true =>
        refine .need fun ⟨h1, h2, h3⟩ => .done ⟨_, g1', ?_⟩
        match vs, us, g2, h2 with
        | [x], [u], _, _ =>
          have h1 : x = v := h1
          subst h1
          exact ((Keep.more hl1.2).rs (g3 0 x u rfl rfl)).fewer h3
      | false =>
        refine ok_cvArgs hR' g2 g3 fun ds U hcv => .need fun ⟨h1, h2⟩ => .done ⟨_, g1', ?_⟩
        obtain ⟨hf1, hf2⟩ := hcv
        obtain ⟨k1, k2, k3, _⟩ := Rel.freezeAll (s := s') U s' hR' rfl (fun r x hx => .inl hx) hf1 (fun b hb => hb)
        obtain ⟨hd1, hd2⟩ := hf2 _ k1.heap k2 k3
        have hl2 := HRel.less (H' := lkO H') k1.heap (fun r o ho => by
          have hm := lkO_mem ho
          show updO s'.ob U r = some o
          rw [updO_names fun q hq e => offU_ok h2 q hq (by rw [e]; exact List.mem_map.2 ⟨_, hm, rfl⟩)]
          exact hob (r, o) hm) (fun r o ho => hd (r, some o) (lkO_mem ho) o rfl)
        have hd3 : ∀ (i : Nat) x v, ds[i]? = some x → us[i]? = some v → RA w' (Vis K m' (lkO H') w') m' (lkO H').dom x.av v := fun i x v hx hv => by
          have h9 := hd2 i x v hx hv
          refine ra_of_drd ?_
          cases x with
          | c x => exact RD.mono hl2.2 (fun _ _ => rfl) h9
          | g cs =>
            obtain ⟨us, e, hl, hcc⟩ := h9
            exact ⟨us, e, hl, fun i x v hx hv => RD.mono hl2.2 (fun _ _ => rfl) (hcc i x v hx hv)⟩
        rw [← h1]
        match ds, us, hd1 with
        | [], [], _ => exact ⟨[], rfl, rfl, fun i x v hx => by simp at hx⟩
        | [x], [u], _ => exact hd3 0 x u rfl rfl
        | x :: y :: l, u :: v :: us, hl =>
          refine ⟨_, rfl, by simpa using hl, fun i z q hz hq => ?_⟩
          rw [List.getElem?_map] at hz
          cases hy : (x :: y :: l)[i]? with
          | none => rw [hy] at hz; cases hz
          | some t =>
            rw [hy] at hz
            simp at hz
            subst hz
            exact hd3 i t q hy hq
    obtain ⟨_, _, _, u, h1, h2⟩ := key [] _ hq
    exact ⟨u, h1, m', hl1.1, hname, u, rfl, h2⟩
  cases e with
  | normal =>
    cases out with
    | ret v H' => exact retn v H' rfl hq
    | pan v H' => exact hq.elim
  | ret =>
    cases out with
    | ret v H' => exact retn v H' rfl hq
    | pan v H' => exact hq.elim
  | panic chain =>
    cases out with
    | ret v H' => exact hq.elim
    | pan v H' =>
      obtain ⟨rfl, hob⟩ := hq
      exact ⟨hR'.defers, m', (HRel.less (H' := lkO H') hR'.heap (fun r o ho => hob (r, o) (lkO_mem ho)) (fun r o ho => hd (r, some o) (lkO_mem ho) o rfl)).1, hname, rfl⟩
  | exit id => exact hq
  | goto l => exact hq
  | outgrown => exact hq.elim
end
end Go.Proofs.YtdakeodebgggfaaDoor

/- A machine of values, 17: evaluation. -/
namespace Go.Proofs.YtdakeodebgggfaaDoor
open Go.RowKit
set_option linter.unusedVariables false
set_option linter.unusedSimpArgs false

section
variable {G : Nat → Option (List D)} {P : Program} {s : FSt} {ops : Array Oper} {ρ : Operand → SV} {H : Hp} {rs : List Nat} {Kc : List Nat → Out → Prop}
/-- What comes behind an operation. -/
def contA (P : Program) (G : Nat → Option (List D)) (ops : Array Oper) (draw : Bool) (Qp : Value → FSt → Prop) (dst : Option Nat) (rest : List Oper) (s : FSt) (log : List (List Nat × List Nat)) (Kn : FSt → Prop) : List Nat → Out → Prop
  | rs, .val v U => arun P G ops draw Qp rest (s.app dst v U) ((rs, U.map (·.1)) :: log) Kn
  | _, .pan v U => draw = false ∧ Qp v ⟨s.sl, updO s.ob U⟩
@[go_sem] theorem contA_val {draw : Bool} {Qp : Value → FSt → Prop} {dst : Option Nat} {rest : List Oper} {log : List (List Nat × List Nat)} {Kn : FSt → Prop} {v : SV} {U : List (Nat × Option AObj)} :
    contA P G ops draw Qp dst rest s log Kn rs (.val v U) = arun P G ops draw Qp rest (s.app dst v U) ((rs, U.map (·.1)) :: log) Kn := rfl
@[go_sem] theorem contA_pan {draw : Bool} {Qp : Value → FSt → Prop} {dst : Option Nat} {rest : List Oper} {log : List (List Nat × List Nat)} {Kn : FSt → Prop} {v : Value} {U : List (Nat × Option AObj)} :
    contA P G ops draw Qp dst rest s log Kn rs (.pan v U) = (draw = false ∧ Qp v ⟨s.sl, updO s.ob U⟩) := rfl
theorem arun_cons' {draw : Bool} {Qp : Value → FSt → Prop} {o : Oper} {rest : List Oper} {log : List (List Nat × List Nat)} {Kn : FSt → Prop} :
    arun P G ops draw Qp (o :: rest) s log Kn = astep P G ops o s (contA P G ops draw Qp o.dst rest s log Kn) := by
  rw [arun]
  congr 1
  funext rs out
  cases out <;> rfl
@[go_sem] theorem arun_cons {draw : Bool} {Qp : Value → FSt → Prop} {d : Option Nat} {op : Op} {ty : TypeId} {pos : String} {af : Array Edge} {gd : Option (Nat × Bool)} {rest : List Oper} {log : List (List Nat × List Nat)} {Kn : FSt → Prop} :
    arun P G ops draw Qp (⟨d, op, ty, pos, af, gd⟩ :: rest) s log Kn = astep P G ops ⟨d, op, ty, pos, af, gd⟩ s (contA P G ops draw Qp d rest s log Kn) := arun_cons'
@[go_sem] theorem arun_nilF {Qp : Value → FSt → Prop} {log : List (List Nat × List Nat)} {Kn : FSt → Prop} : arun P G ops false Qp [] s log Kn = Kn s := by simp [arun]
@[go_sem] theorem arun_nilT {Qp : Value → FSt → Prop} {log : List (List Nat × List Nat)} {Kn : FSt → Prop} : arun P G ops true Qp [] s log Kn = (logOk ops log.reverse = true ∧ Kn s) := by simp [arun]
@[go_sem] theorem astep_none {d : Option Nat} {op : Op} {ty : TypeId} {pos : String} {af : Array Edge} : astep P G ops ⟨d, op, ty, pos, af, none⟩ s Kc = (aop P G (evl G s.sl) ⟨d, op, ty, pos, af, none⟩).run s.ob [] Kc := rfl
/-- A guarded operation: its guard's slot. -/
def gslot (ops : Array Oper) (j : Nat) : Option Nat := (ops[j]?).bind (·.dst)
def wantB (x : SV) (b : Bool) : Option Bool :=
  match x with
  | .a (.c (.d (.v (.bool c)))) => some (c == b)
  | .undef => some false
  | _ => none
@[go_sem] theorem wantB_bool {b c : Bool} : wantB (.a (.c (.d (.v (.bool c))))) b = some (c == b) := rfl
@[go_sem] theorem wantB_undef {b : Bool} : wantB .undef b = some false := rfl
def astepG (P : Program) (G : Nat → Option (List D)) (w : Option Bool) (o : Oper) (s : FSt) (Kc : List Nat → Out → Prop) : Prop :=
  match w with
  | some true => (aop P G (evl G s.sl) o).run s.ob [] Kc
  | some false => Kc [] (.val .undef [])
  | none => False
theorem astepG_true {o : Oper} : astepG P G (some true) o s Kc = (aop P G (evl G s.sl) o).run s.ob [] Kc := rfl
theorem astepG_false {o : Oper} : astepG P G (some false) o s Kc = Kc [] (.val .undef []) := rfl
theorem astep_some' {d : Option Nat} {op : Op} {ty : TypeId} {pos : String} {af : Array Edge} {j : Nat} {b : Bool} :
    astep P G ops ⟨d, op, ty, pos, af, some (j, b)⟩ s Kc = astepG P G (match gslot ops j with | some t => wantB (s.sl t) b | none => none) ⟨d, op, ty, pos, af, some (j, b)⟩ s Kc := by
  unfold astep astepG wantA gslot
  dsimp only
  cases (ops[j]?).bind (·.dst) <;> rfl
def slAt (f : Nat → SV) : Option Nat → SV
  | some t => f t
  | none => .bot
@[go_sem] theorem slAt_some {f : Nat → SV} {t : Nat} : slAt f (some t) = f t := rfl
@[go_sem] theorem astep_some {d : Option Nat} {op : Op} {ty : TypeId} {pos : String} {af : Array Edge} {j : Nat} {b : Bool} :
    astep P G ops ⟨d, op, ty, pos, af, some (j, b)⟩ s Kc = astepG P G (wantB (slAt s.sl (gslot ops j)) b) ⟨d, op, ty, pos, af, some (j, b)⟩ s Kc := by
  rw [astep_some']
  cases gslot ops j <;> rfl

/-! operations -/
@[go_sem] theorem aop_move {d : Option Nat} {x : Operand} {ty : TypeId} {pos : String} {af : Array Edge} {gd : Option (Nat × Bool)} : aop P G ρ ⟨d, .move x, ty, pos, af, gd⟩ = .need (constOk x = true) (.done (ρ x) []) := rfl
@[go_sem] theorem aop_assign {d : Option Nat} {x : Operand} {ty : TypeId} {pos : String} {af : Array Edge} {gd : Option (Nat × Bool)} : aop P G ρ ⟨d, .assign x, ty, pos, af, gd⟩ = .need (constOk x = true) (.done (ρ x) []) := rfl
def pickQ (ρ : Operand → SV) (c : SV) (a b : Operand) : Q :=
  match c with
  | .a (.c (.d (.v (.bool true)))) => .need (constOk a = true) (.done (ρ a) [])
  | .a (.c (.d (.v (.bool false)))) => .need (constOk b = true) (.done (ρ b) [])
  | _ => .fail
@[go_sem] theorem pick_true {a b : Operand} : pickQ ρ (.a (.c (.d (.v (.bool true))))) a b = .need (constOk a = true) (.done (ρ a) []) := rfl
@[go_sem] theorem pick_false {a b : Operand} : pickQ ρ (.a (.c (.d (.v (.bool false))))) a b = .need (constOk b = true) (.done (ρ b) []) := rfl
@[go_sem] theorem aop_pick {d : Option Nat} {c a b : Operand} {ty : TypeId} {pos : String} {af : Array Edge} {gd : Option (Nat × Bool)} : aop P G ρ ⟨d, .pick c a b, ty, pos, af, gd⟩ = pickQ ρ (ρ c) a b := rfl
@[go_sem] theorem aop_alloc {d : Option Nat} {t : TypeId} {ty : TypeId} {pos : String} {af : Array Edge} {gd : Option (Nat × Bool)} : aop P G ρ ⟨d, .alloc t, ty, pos, af, gd⟩ = .need (tyok P t = true) (newQ d t (zeroOf P t) (fun d => .ptr d 0)) := rfl
@[go_sem] theorem aop_box {d : Option Nat} {t : TypeId} {x : Operand} {ty : TypeId} {pos : String} {af : Array Edge} {gd : Option (Nat × Bool)} : aop P G ρ ⟨d, .box t x, ty, pos, af, gd⟩ = .need (constOk x = true) (boxQ d t (ρ x)) := rfl
@[go_sem] theorem aop_build {d : Option Nat} {t : TypeId} {ps : List (Nat × Operand)} {ty : TypeId} {pos : String} {af : Array Edge} {gd : Option (Nat × Bool)} :
    aop P G ρ ⟨d, .build t ⟨ps⟩, ty, pos, af, gd⟩ = .need (ps.all (fun p => constOk p.2) = true) (buildQ P t (ps.map fun p => (p.1, ρ p.2))) := by simp [aop]
@[go_sem] theorem aop_buildSlice {d : Option Nat} {t : TypeId} {n : Nat} {ps : List (Nat × Operand)} {ty : TypeId} {pos : String} {af : Array Edge} {gd : Option (Nat × Bool)} :
    aop P G ρ ⟨d, .buildSlice t n ⟨ps⟩, ty, pos, af, gd⟩ = .need (ps.all (fun p => constOk p.2) = true) (buildSliceQ P d t n (ps.map fun p => (p.1, ρ p.2))) := by simp [aop]
@[go_sem] theorem aop_load {d : Option Nat} {t : TypeId} {x : Operand} {ty : TypeId} {pos : String} {af : Array Edge} {gd : Option (Nat × Bool)} : aop P G ρ ⟨d, .load t x, ty, pos, af, gd⟩ = loadQ P t (ρ x) := rfl
@[go_sem] theorem aop_store {d : Option Nat} {t : TypeId} {x y : Operand} {ty : TypeId} {pos : String} {af : Array Edge} {gd : Option (Nat × Bool)} : aop P G ρ ⟨d, .store t x y, ty, pos, af, gd⟩ = .need (constOk y = true) (storeQ P t (ρ x) (ρ y)) := rfl
@[go_sem] theorem aop_nilCheck {d : Option Nat} {x : Operand} {ty : TypeId} {pos : String} {af : Array Edge} {gd : Option (Nat × Bool)} : aop P G ρ ⟨d, .nilCheck x, ty, pos, af, gd⟩ = nilCheckQ (ρ x) := rfl
@[go_sem] theorem aop_binOp {d : Option Nat} {op : BinOp} {t t2 : TypeId} {x y : Operand} {ty : TypeId} {pos : String} {af : Array Edge} {gd : Option (Nat × Bool)} :
    aop P G ρ ⟨d, .binOp op t x y t2, ty, pos, af, gd⟩ = .need (constOk x = true ∧ constOk y = true) (boolQ P op t (ρ x) (ρ y)) := rfl
@[go_sem] theorem aop_unOp {d : Option Nat} {op : UnOp} {t : TypeId} {x : Operand} {ty : TypeId} {pos : String} {af : Array Edge} {gd : Option (Nat × Bool)} : aop P G ρ ⟨d, .unOp op t x, ty, pos, af, gd⟩ = unQ op (ρ x) := rfl
@[go_sem] theorem aop_convert {d : Option Nat} {t t2 : TypeId} {x : Operand} {ty : TypeId} {pos : String} {af : Array Edge} {gd : Option (Nat × Bool)} : aop P G ρ ⟨d, .convert t t2 x, ty, pos, af, gd⟩ = convQ P t t2 (ρ x) := rfl
@[go_sem] theorem aop_arr {d : Option Nat} {t : TypeId} {x : Operand} {ty : TypeId} {pos : String} {af : Array Edge} {gd : Option (Nat × Bool)} : aop P G ρ ⟨d, .sliceToArrayPointer t x, ty, pos, af, gd⟩ = arrPtrQ P t (ρ x) := rfl
@[go_sem] theorem aop_make {d : Option Nat} {t : TypeId} {x y : Operand} {ty : TypeId} {pos : String} {af : Array Edge} {gd : Option (Nat × Bool)} : aop P G ρ ⟨d, .makeSlice t x y, ty, pos, af, gd⟩ = makeQ P d t (ρ x) (ρ y) := rfl
@[go_sem] theorem aop_slice {d : Option Nat} {t : TypeId} {x : Operand} {lo hi : Option Operand} {ty : TypeId} {pos : String} {af : Array Edge} {gd : Option (Nat × Bool)} : aop P G ρ ⟨d, .slice t x lo hi none, ty, pos, af, gd⟩ = sliceQ P t (ρ x) (lo.map ρ) (hi.map ρ) := rfl
@[go_sem] theorem aop_fieldAddr {d : Option Nat} {t : TypeId} {x : Operand} {f : Nat} {ty : TypeId} {pos : String} {af : Array Edge} {gd : Option (Nat × Bool)} : aop P G ρ ⟨d, .fieldAddr t x f, ty, pos, af, gd⟩ = fieldAddrQ P t (ρ x) f := rfl
@[go_sem] theorem aop_field {d : Option Nat} {t : TypeId} {x : Operand} {f : Nat} {ty : TypeId} {pos : String} {af : Array Edge} {gd : Option (Nat × Bool)} : aop P G ρ ⟨d, .field t x f, ty, pos, af, gd⟩ = .need (constOk x = true) (fieldQ P t (ρ x) f) := rfl
@[go_sem] theorem aop_indexAddr {d : Option Nat} {t : TypeId} {x y : Operand} {ty : TypeId} {pos : String} {af : Array Edge} {gd : Option (Nat × Bool)} : aop P G ρ ⟨d, .indexAddr t x y, ty, pos, af, gd⟩ = indexAddrQ P t (ρ x) (ρ y) := rfl
@[go_sem] theorem aop_index {d : Option Nat} {t : TypeId} {x y : Operand} {ty : TypeId} {pos : String} {af : Array Edge} {gd : Option (Nat × Bool)} : aop P G ρ ⟨d, .index t x y, ty, pos, af, gd⟩ = .need (constOk x = true) (indexQ P t (ρ x) (ρ y)) := rfl
@[go_sem] theorem aop_extract {d : Option Nat} {x : Operand} {i : Nat} {ty : TypeId} {pos : String} {af : Array Edge} {gd : Option (Nat × Bool)} : aop P G ρ ⟨d, .extract x i, ty, pos, af, gd⟩ = extractQ (ρ x) i := rfl
@[go_sem] theorem aop_callV {d : Option Nat} {f : Operand} {args : List Operand} {tys : Array TypeId} {ty : TypeId} {pos : String} {af : Array Edge} {gd : Option (Nat × Bool)} :
    aop P G ρ ⟨d, .call ⟨.value f, ⟨args⟩, tys⟩, ty, pos, af, gd⟩ = .need (constOk f = true ∧ args.all constOk = true) (callQ P G d (ρ f) (args.map ρ)) := rfl
@[go_sem] theorem aop_len {d : Option Nat} {x : Operand} {t : TypeId} {ty : TypeId} {pos : String} {af : Array Edge} {gd : Option (Nat × Bool)} :
    aop P G ρ ⟨d, .call ⟨.builtin .len, ⟨[x]⟩, ⟨[t]⟩⟩, ty, pos, af, gd⟩ = .need (constOk x = true) (lenQ P t (ρ x)) := rfl
@[go_sem] theorem aop_append {d : Option Nat} {x y : Operand} {t t2 : TypeId} {ty : TypeId} {pos : String} {af : Array Edge} {gd : Option (Nat × Bool)} :
    aop P G ρ ⟨d, .call ⟨.builtin .append, ⟨[x, y]⟩, ⟨[t, t2]⟩⟩, ty, pos, af, gd⟩ = .need (constOk x = true ∧ constOk y = true) (appendQ P d t t2 (ρ x) (ρ y)) := rfl
@[go_sem] theorem aop_copy {d : Option Nat} {x y : Operand} {t t2 : TypeId} {ty : TypeId} {pos : String} {af : Array Edge} {gd : Option (Nat × Bool)} :
    aop P G ρ ⟨d, .call ⟨.builtin .copy, ⟨[x, y]⟩, ⟨[t, t2]⟩⟩, ty, pos, af, gd⟩ = .need (constOk x = true ∧ constOk y = true) (copyQ P t t2 (ρ x) (ρ y)) := rfl
@[go_sem] theorem aop_min {d : Option Nat} {x y : Operand} {tys : Array TypeId} {ty : TypeId} {pos : String} {af : Array Edge} {gd : Option (Nat × Bool)} :
    aop P G ρ ⟨d, .call ⟨.builtin .min, ⟨[x, y]⟩, tys⟩, ty, pos, af, gd⟩ = .need (constOk x = true ∧ constOk y = true) (minmaxQ false (ρ x) (ρ y)) := rfl
@[go_sem] theorem aop_max {d : Option Nat} {x y : Operand} {tys : Array TypeId} {ty : TypeId} {pos : String} {af : Array Edge} {gd : Option (Nat × Bool)} :
    aop P G ρ ⟨d, .call ⟨.builtin .max, ⟨[x, y]⟩, tys⟩, ty, pos, af, gd⟩ = .need (constOk x = true ∧ constOk y = true) (minmaxQ true (ρ x) (ρ y)) := rfl

/-! the runs of questions -/
@[go_sem] theorem run_done {v : SV} {U : List (Nat × Option AObj)} : Q.run H rs Kc (.done v U) = Kc rs (.val v U) := rfl
@[go_sem] theorem run_pan {v : Value} {U : List (Nat × Option AObj)} : Q.run H rs Kc (.pan v U) = Kc rs (.pan v U) := rfl
@[go_sem] theorem run_need {p : Prop} {q : Q} : Q.run H rs Kc (.need p q) = (p ∧ q.run H rs Kc) := rfl
@[go_sem] theorem run_any {α : Type} {k : α → Q} : Q.run H rs Kc (.any α k) = ∃ x, (k x).run H rs Kc := rfl
@[go_sem] theorem run_new {r : Nat} {q : Q} : Q.run H rs Kc (.new r q) = (H r = none ∧ q.run H (r :: rs) Kc) := rfl
def objK (x : Option (Option AObj)) (k : AObj → Q) (H : Hp) (rs : List Nat) (Kc : List Nat → Out → Prop) : Prop :=
  match x with
  | some (some o) => (k o).run H rs Kc
  | _ => False
@[go_sem] theorem objK_some {o : AObj} {k : AObj → Q} : objK (some (some o)) k H rs Kc = (k o).run H rs Kc := rfl
@[go_sem] theorem run_obj {r : Nat} {k : AObj → Q} : Q.run H rs Kc (.obj r k) = objK (H r) k H (r :: rs) Kc := by
  unfold objK
  rw [Q.run]
  rcases H r with _ | _ | o <;> rfl
/-- A test's two ways. -/
def Br (t : Bool) (k : Bool → Prop) : Prop := k t
theorem br_intro {t : Bool} {k : Bool → Prop} (h1 : t = true → k true) (h2 : t = false → k false) : Br t k := by
  cases t
  · exact h2 rfl
  · exact h1 rfl
@[go_sem] theorem br_true {k : Bool → Prop} : Br true k = k true := rfl
@[go_sem] theorem br_false {k : Bool → Prop} : Br false k = k false := rfl
def nK (k : Bool → Prop) (b : Bool) : Prop := k (!b)
@[go_sem] theorem nK_true {k : Bool → Prop} : nK k true = k false := rfl
@[go_sem] theorem nK_false {k : Bool → Prop} : nK k false = k true := rfl
@[go_sem] theorem br_not {t : Bool} {k : Bool → Prop} : Br (!t) k = Br t (nK k) := rfl
def gK (P : Program) (G : Nat → Option (List D)) (o : Oper) (s : FSt) (Kc : List Nat → Out → Prop) (b : Bool) : Prop :=
  match b with
  | true => (aop P G (evl G s.sl) o).run s.ob [] Kc
  | false => Kc [] (.val .undef [])
@[go_sem] theorem gK_true {o : Oper} : gK P G o s Kc true = (aop P G (evl G s.sl) o).run s.ob [] Kc := rfl
@[go_sem] theorem gK_false {o : Oper} : gK P G o s Kc false = Kc [] (.val .undef []) := rfl
@[go_sem] theorem astepG_some {t : Bool} {o : Oper} : astepG P G (some t) o s Kc = Br t (gK P G o s Kc) := by
  cases t <;> rfl
def ifK (P : Program) (K : Ctx G) (F : Fr) (x y : Code) (R : Exit → FSt → Prop) (s : FSt) (b : Bool) : Prop :=
  match b with
  | true => Sound P K F x R s
  | false => Sound P K F y R s
@[go_sem] theorem ifK_true {K : Ctx G} {F : Fr} {R : Exit → FSt → Prop} {x y : Code} : ifK P K F x y R s true = Sound P K F x R s := rfl
@[go_sem] theorem ifK_false {K : Ctx G} {F : Fr} {R : Exit → FSt → Prop} {x y : Code} : ifK P K F x y R s false = Sound P K F y R s := rfl
def condB (x : SV) (k : Bool → Prop) : Prop :=
  match x with
  | .a (.c (.d (.v (.bool t)))) => k t
  | _ => False
@[go_sem] theorem condB_bool {t : Bool} {k : Bool → Prop} : condB (.a (.c (.d (.v (.bool t))))) k = k t := rfl
theorem sound_if {K : Ctx G} {F : Fr} {R : Exit → FSt → Prop} {c : Operand} {x y : Code} (h : condB (evl G s.sl c) fun t => Br t (ifK P K F x y R s)) : Sound P K F (.cond c x y) R s := by
  unfold condB at h
  split at h
  · rename_i t e
    refine sound_cond e ?_
    cases t
    · exact h
    · exact h
  · exact h.elim
theorem sound_seq_k {K : Ctx G} {F : Fr} {R : Exit → FSt → Prop} {x y : Code} (h : ∀ Kn : FSt → Prop, (∀ s, Sound P K F y R s → Kn s) → Sound P K F x (Then Kn R) s) : Sound P K F (.seq x y) R s := sound_seq (h _ fun _ h => h)
attribute [go_sem] FSt.app putS updO LSt.st lkS lkO upd evl cvS cvC constOk Then InBlock
attribute [go_sem] lenQ loadQ storeQ newQ boxQ partOf setAt valQ optQ binQ boolQ unQ arithV strV rdQ rdD fieldAddrQ indexAddrQ fieldQ indexQ partQ extractQ nilCheckQ arrPtrQ bndQ Cap.cut sliceQ buildQ buildSliceQ makeQ fillC placeOf
@[go_sem] theorem aop_makeFunc {d : Option Nat} {f : FuncId} {caps : List Operand} {ty : TypeId} {pos : String} {af : Array Edge} {gd : Option (Nat × Bool)} : aop P G ρ ⟨d, .makeFunc (.func f) #[] ⟨caps⟩, ty, pos, af, gd⟩ = .need (caps.all constOk = true) (makeFnQ f (caps.map ρ)) := by simp [aop]
attribute [go_sem] isSl isPtr nilQ Option.isNone_none Option.isNone_some Bool.false_bne Bool.true_bne Bool.bne_false Bool.bne_true
attribute [go_sem] callX callP SV.ref makeFnQ cvCaps List.any_cons List.any_nil Bool.or_false Bool.false_or Bool.or_true Bool.true_or
attribute [go_sem] callQ cvArgs cvA cvQ cvW cvIn cvLS cvF cvL dOnly dOf Cap.part DR.out DV.av appendQ srcQ copyQ minmaxQ convQ gslot Ret resQ outOf initL
attribute [go_sem] List.map_cons List.map_nil List.all_cons List.all_nil Bool.and_true Bool.true_and and_true true_and Option.map_some Option.map_none ne_eq not_true_eq_false not_false_eq_true if_true if_false Bool.not_true Bool.not_false
attribute [go_sem] List.getElem?_cons_zero List.getElem?_cons_succ List.getElem?_nil List.take_zero List.take_succ_cons List.take_nil List.drop_zero List.drop_succ_cons List.drop_nil List.length_cons List.length_nil List.cons_append List.nil_append List.append_nil List.set_cons_zero List.set_cons_succ
attribute [go_sem] Nat.add_zero Nat.zero_add Nat.mul_one Nat.one_mul Nat.zero_mul Nat.sub_zero Int.toNat_natCast
@[go_sem] theorem bq_true {b : Bool} : (b == true) = b := by cases b <;> rfl
@[go_sem] theorem bq_false {b : Bool} : (b == false) = !b := by cases b <;> rfl
attribute [go_sem] Option.bind_some List.reverse_cons List.reverse_nil Kd.agg beq_self_eq_true
end
end Go.Proofs.YtdakeodebgggfaaDoor

/- Facts on the program's types and functions. -/
namespace Go.Proofs.YtdakeodebgggfaaDoor
open Go Go.RowKit
set_option maxRecDepth 100000

@[go_sem] theorem ty0_sz : szOf Go.Proofs.Tryd.prog 0 = 1 := by kernel_rfl
@[go_sem] theorem ty0_by : byOf Go.Proofs.Tryd.prog 0 = 0 := by kernel_rfl
@[go_sem] theorem ty0_z : zeroOf Go.Proofs.Tryd.prog 0 = [C.d (D.v (Value.tuple #[]))] := by kernel_rfl
@[go_sem] theorem ty1_kd : kdOf Go.Proofs.Tryd.prog 1 = Kd.fn := by kernel_rfl
@[go_sem] theorem ty1_sz : szOf Go.Proofs.Tryd.prog 1 = 1 := by kernel_rfl
@[go_sem] theorem ty1_by : byOf Go.Proofs.Tryd.prog 1 = 8 := by kernel_rfl
@[go_sem] theorem ty1_ok : tyok Go.Proofs.Tryd.prog 1 = true := by kernel_rfl
@[go_sem] theorem ty1_z : zeroOf Go.Proofs.Tryd.prog 1 = [C.d (D.v (Value.nilFunc))] := by kernel_rfl
@[go_sem] theorem ty2_kd : kdOf Go.Proofs.Tryd.prog 2 = Kd.int IntKind.i64 := by kernel_rfl
@[go_sem] theorem ty2_sz : szOf Go.Proofs.Tryd.prog 2 = 1 := by kernel_rfl
@[go_sem] theorem ty2_by : byOf Go.Proofs.Tryd.prog 2 = 8 := by kernel_rfl
@[go_sem] theorem ty2_ok : tyok Go.Proofs.Tryd.prog 2 = true := by kernel_rfl
@[go_sem] theorem ty2_z : zeroOf Go.Proofs.Tryd.prog 2 = [C.d (D.v (Value.int IntKind.i64 0))] := by kernel_rfl
@[go_sem] theorem ty3_kd : kdOf Go.Proofs.Tryd.prog 3 = Kd.int IntKind.i64 := by kernel_rfl
@[go_sem] theorem ty3_sz : szOf Go.Proofs.Tryd.prog 3 = 1 := by kernel_rfl
@[go_sem] theorem ty3_by : byOf Go.Proofs.Tryd.prog 3 = 8 := by kernel_rfl
@[go_sem] theorem ty3_ok : tyok Go.Proofs.Tryd.prog 3 = true := by kernel_rfl
@[go_sem] theorem ty3_z : zeroOf Go.Proofs.Tryd.prog 3 = [C.d (D.v (Value.int IntKind.i64 0))] := by kernel_rfl
@[go_sem] theorem ty4_kd : kdOf Go.Proofs.Tryd.prog 4 = Kd.bool := by kernel_rfl
@[go_sem] theorem ty4_sz : szOf Go.Proofs.Tryd.prog 4 = 1 := by kernel_rfl
@[go_sem] theorem ty4_by : byOf Go.Proofs.Tryd.prog 4 = 1 := by kernel_rfl
@[go_sem] theorem ty4_ok : tyok Go.Proofs.Tryd.prog 4 = true := by kernel_rfl
@[go_sem] theorem ty4_z : zeroOf Go.Proofs.Tryd.prog 4 = [C.d (D.v (Value.bool false))] := by kernel_rfl
@[go_sem] theorem ty5_kd : kdOf Go.Proofs.Tryd.prog 5 = Kd.int IntKind.u8 := by kernel_rfl
@[go_sem] theorem ty5_sz : szOf Go.Proofs.Tryd.prog 5 = 1 := by kernel_rfl
@[go_sem] theorem ty5_by : byOf Go.Proofs.Tryd.prog 5 = 1 := by kernel_rfl
@[go_sem] theorem ty5_ok : tyok Go.Proofs.Tryd.prog 5 = true := by kernel_rfl
@[go_sem] theorem ty5_z : zeroOf Go.Proofs.Tryd.prog 5 = [C.d (D.v (Value.int IntKind.u8 0))] := by kernel_rfl
@[go_sem] theorem ty5_u8 : u8Ok Go.Proofs.Tryd.prog 5 = True := eq_true ⟨by kernel_rfl, by kernel_rfl, by kernel_rfl⟩
@[go_sem] theorem ty6_kd : kdOf Go.Proofs.Tryd.prog 6 = Kd.int IntKind.u8 := by kernel_rfl
@[go_sem] theorem ty6_sz : szOf Go.Proofs.Tryd.prog 6 = 1 := by kernel_rfl
@[go_sem] theorem ty6_by : byOf Go.Proofs.Tryd.prog 6 = 1 := by kernel_rfl
@[go_sem] theorem ty6_ok : tyok Go.Proofs.Tryd.prog 6 = true := by kernel_rfl
@[go_sem] theorem ty6_z : zeroOf Go.Proofs.Tryd.prog 6 = [C.d (D.v (Value.int IntKind.u8 0))] := by kernel_rfl
@[go_sem] theorem ty7_kd : kdOf Go.Proofs.Tryd.prog 7 = Kd.st := by kernel_rfl
@[go_sem] theorem ty7_sz : szOf Go.Proofs.Tryd.prog 7 = 4 := by kernel_rfl
@[go_sem] theorem ty7_by : byOf Go.Proofs.Tryd.prog 7 = 24 := by kernel_rfl
@[go_sem] theorem ty7_ok : tyok Go.Proofs.Tryd.prog 7 = true := by kernel_rfl
@[go_sem] theorem ty7_z : zeroOf Go.Proofs.Tryd.prog 7 = [C.d (D.v (Value.int IntKind.i64 0)), C.d (D.v (Value.int IntKind.i64 0)), C.d (D.v (Value.bool false)), C.d (D.v (Value.int IntKind.u8 0))] := by kernel_rfl
@[go_sem] theorem ty7_f0 : fldOf Go.Proofs.Tryd.prog 7 0 = (0, 2) := by kernel_rfl
@[go_sem] theorem ty7_i0 : isFld Go.Proofs.Tryd.prog 7 0 = true := by kernel_rfl
@[go_sem] theorem ty7_f1 : fldOf Go.Proofs.Tryd.prog 7 1 = (1, 3) := by kernel_rfl
@[go_sem] theorem ty7_i1 : isFld Go.Proofs.Tryd.prog 7 1 = true := by kernel_rfl
@[go_sem] theorem ty7_f2 : fldOf Go.Proofs.Tryd.prog 7 2 = (2, 4) := by kernel_rfl
@[go_sem] theorem ty7_i2 : isFld Go.Proofs.Tryd.prog 7 2 = true := by kernel_rfl
@[go_sem] theorem ty7_f3 : fldOf Go.Proofs.Tryd.prog 7 3 = (3, 6) := by kernel_rfl
@[go_sem] theorem ty7_i3 : isFld Go.Proofs.Tryd.prog 7 3 = true := by kernel_rfl
@[go_sem] theorem ty7_b : bldOk Go.Proofs.Tryd.prog 7 = true := by kernel_rfl
@[go_sem] theorem ty8_kd : kdOf Go.Proofs.Tryd.prog 8 = Kd.st := by kernel_rfl
@[go_sem] theorem ty8_sz : szOf Go.Proofs.Tryd.prog 8 = 4 := by kernel_rfl
@[go_sem] theorem ty8_by : byOf Go.Proofs.Tryd.prog 8 = 24 := by kernel_rfl
@[go_sem] theorem ty8_ok : tyok Go.Proofs.Tryd.prog 8 = true := by kernel_rfl
@[go_sem] theorem ty8_z : zeroOf Go.Proofs.Tryd.prog 8 = [C.d (D.v (Value.int IntKind.i64 0)), C.d (D.v (Value.int IntKind.i64 0)), C.d (D.v (Value.bool false)), C.d (D.v (Value.int IntKind.u8 0))] := by kernel_rfl
@[go_sem] theorem ty8_f0 : fldOf Go.Proofs.Tryd.prog 8 0 = (0, 2) := by kernel_rfl
@[go_sem] theorem ty8_i0 : isFld Go.Proofs.Tryd.prog 8 0 = true := by kernel_rfl
@[go_sem] theorem ty8_f1 : fldOf Go.Proofs.Tryd.prog 8 1 = (1, 3) := by kernel_rfl
@[go_sem] theorem ty8_i1 : isFld Go.Proofs.Tryd.prog 8 1 = true := by kernel_rfl
@[go_sem] theorem ty8_f2 : fldOf Go.Proofs.Tryd.prog 8 2 = (2, 4) := by kernel_rfl
@[go_sem] theorem ty8_i2 : isFld Go.Proofs.Tryd.prog 8 2 = true := by kernel_rfl
@[go_sem] theorem ty8_f3 : fldOf Go.Proofs.Tryd.prog 8 3 = (3, 6) := by kernel_rfl
@[go_sem] theorem ty8_i3 : isFld Go.Proofs.Tryd.prog 8 3 = true := by kernel_rfl
@[go_sem] theorem ty8_b : bldOk Go.Proofs.Tryd.prog 8 = true := by kernel_rfl
@[go_sem] theorem ty9_kd : kdOf Go.Proofs.Tryd.prog 9 = Kd.str := by kernel_rfl
@[go_sem] theorem ty9_sz : szOf Go.Proofs.Tryd.prog 9 = 1 := by kernel_rfl
@[go_sem] theorem ty9_by : byOf Go.Proofs.Tryd.prog 9 = 16 := by kernel_rfl
@[go_sem] theorem ty9_ok : tyok Go.Proofs.Tryd.prog 9 = true := by kernel_rfl
@[go_sem] theorem ty9_z : zeroOf Go.Proofs.Tryd.prog 9 = [C.d (D.v (Value.string { data := #[] }))] := by kernel_rfl
@[go_sem] theorem ty10_kd : kdOf Go.Proofs.Tryd.prog 10 = Kd.str := by kernel_rfl
@[go_sem] theorem ty10_sz : szOf Go.Proofs.Tryd.prog 10 = 1 := by kernel_rfl
@[go_sem] theorem ty10_by : byOf Go.Proofs.Tryd.prog 10 = 16 := by kernel_rfl
@[go_sem] theorem ty10_ok : tyok Go.Proofs.Tryd.prog 10 = true := by kernel_rfl
@[go_sem] theorem ty10_z : zeroOf Go.Proofs.Tryd.prog 10 = [C.d (D.v (Value.string { data := #[] }))] := by kernel_rfl
@[go_sem] theorem ty11_kd : kdOf Go.Proofs.Tryd.prog 11 = Kd.str := by kernel_rfl
@[go_sem] theorem ty11_sz : szOf Go.Proofs.Tryd.prog 11 = 1 := by kernel_rfl
@[go_sem] theorem ty11_by : byOf Go.Proofs.Tryd.prog 11 = 16 := by kernel_rfl
@[go_sem] theorem ty11_ok : tyok Go.Proofs.Tryd.prog 11 = true := by kernel_rfl
@[go_sem] theorem ty11_z : zeroOf Go.Proofs.Tryd.prog 11 = [C.d (D.v (Value.string { data := #[] }))] := by kernel_rfl
@[go_sem] theorem ty12_kd : kdOf Go.Proofs.Tryd.prog 12 = Kd.int IntKind.u64 := by kernel_rfl
@[go_sem] theorem ty12_sz : szOf Go.Proofs.Tryd.prog 12 = 1 := by kernel_rfl
@[go_sem] theorem ty12_by : byOf Go.Proofs.Tryd.prog 12 = 8 := by kernel_rfl
@[go_sem] theorem ty12_ok : tyok Go.Proofs.Tryd.prog 12 = true := by kernel_rfl
@[go_sem] theorem ty12_z : zeroOf Go.Proofs.Tryd.prog 12 = [C.d (D.v (Value.int IntKind.u64 0))] := by kernel_rfl
@[go_sem] theorem ty13_kd : kdOf Go.Proofs.Tryd.prog 13 = Kd.st := by kernel_rfl
@[go_sem] theorem ty13_sz : szOf Go.Proofs.Tryd.prog 13 = 2 := by kernel_rfl
@[go_sem] theorem ty13_by : byOf Go.Proofs.Tryd.prog 13 = 24 := by kernel_rfl
@[go_sem] theorem ty13_ok : tyok Go.Proofs.Tryd.prog 13 = true := by kernel_rfl
@[go_sem] theorem ty13_z : zeroOf Go.Proofs.Tryd.prog 13 = [C.d (D.v (Value.string { data := #[] })), C.d (D.v (Value.int IntKind.u64 0))] := by kernel_rfl
@[go_sem] theorem ty13_f0 : fldOf Go.Proofs.Tryd.prog 13 0 = (0, 9) := by kernel_rfl
@[go_sem] theorem ty13_i0 : isFld Go.Proofs.Tryd.prog 13 0 = true := by kernel_rfl
@[go_sem] theorem ty13_f1 : fldOf Go.Proofs.Tryd.prog 13 1 = (1, 12) := by kernel_rfl
@[go_sem] theorem ty13_i1 : isFld Go.Proofs.Tryd.prog 13 1 = true := by kernel_rfl
@[go_sem] theorem ty13_b : bldOk Go.Proofs.Tryd.prog 13 = true := by kernel_rfl
@[go_sem] theorem ty14_kd : kdOf Go.Proofs.Tryd.prog 14 = Kd.st := by kernel_rfl
@[go_sem] theorem ty14_sz : szOf Go.Proofs.Tryd.prog 14 = 2 := by kernel_rfl
@[go_sem] theorem ty14_by : byOf Go.Proofs.Tryd.prog 14 = 24 := by kernel_rfl
@[go_sem] theorem ty14_ok : tyok Go.Proofs.Tryd.prog 14 = true := by kernel_rfl
@[go_sem] theorem ty14_z : zeroOf Go.Proofs.Tryd.prog 14 = [C.d (D.v (Value.string { data := #[] })), C.d (D.v (Value.int IntKind.u64 0))] := by kernel_rfl
@[go_sem] theorem ty14_f0 : fldOf Go.Proofs.Tryd.prog 14 0 = (0, 9) := by kernel_rfl
@[go_sem] theorem ty14_i0 : isFld Go.Proofs.Tryd.prog 14 0 = true := by kernel_rfl
@[go_sem] theorem ty14_f1 : fldOf Go.Proofs.Tryd.prog 14 1 = (1, 12) := by kernel_rfl
@[go_sem] theorem ty14_i1 : isFld Go.Proofs.Tryd.prog 14 1 = true := by kernel_rfl
@[go_sem] theorem ty14_b : bldOk Go.Proofs.Tryd.prog 14 = true := by kernel_rfl
@[go_sem] theorem ty15_kd : kdOf Go.Proofs.Tryd.prog 15 = Kd.ptr 120 := by kernel_rfl
@[go_sem] theorem ty15_sz : szOf Go.Proofs.Tryd.prog 15 = 1 := by kernel_rfl
@[go_sem] theorem ty15_by : byOf Go.Proofs.Tryd.prog 15 = 8 := by kernel_rfl
@[go_sem] theorem ty15_ok : tyok Go.Proofs.Tryd.prog 15 = true := by kernel_rfl
@[go_sem] theorem ty15_z : zeroOf Go.Proofs.Tryd.prog 15 = [C.d (D.v (Value.pointer none))] := by kernel_rfl
@[go_sem] theorem ty16_kd : kdOf Go.Proofs.Tryd.prog 16 = Kd.ptr 123 := by kernel_rfl
@[go_sem] theorem ty16_sz : szOf Go.Proofs.Tryd.prog 16 = 1 := by kernel_rfl
@[go_sem] theorem ty16_by : byOf Go.Proofs.Tryd.prog 16 = 8 := by kernel_rfl
@[go_sem] theorem ty16_ok : tyok Go.Proofs.Tryd.prog 16 = true := by kernel_rfl
@[go_sem] theorem ty16_z : zeroOf Go.Proofs.Tryd.prog 16 = [C.d (D.v (Value.pointer none))] := by kernel_rfl
@[go_sem] theorem ty17_kd : kdOf Go.Proofs.Tryd.prog 17 = Kd.ptr 132 := by kernel_rfl
@[go_sem] theorem ty17_sz : szOf Go.Proofs.Tryd.prog 17 = 1 := by kernel_rfl
@[go_sem] theorem ty17_by : byOf Go.Proofs.Tryd.prog 17 = 8 := by kernel_rfl
@[go_sem] theorem ty17_ok : tyok Go.Proofs.Tryd.prog 17 = true := by kernel_rfl
@[go_sem] theorem ty17_z : zeroOf Go.Proofs.Tryd.prog 17 = [C.d (D.v (Value.pointer none))] := by kernel_rfl
@[go_sem] theorem ty18_kd : kdOf Go.Proofs.Tryd.prog 18 = Kd.st := by kernel_rfl
@[go_sem] theorem ty18_sz : szOf Go.Proofs.Tryd.prog 18 = 1 := by kernel_rfl
@[go_sem] theorem ty18_by : byOf Go.Proofs.Tryd.prog 18 = 8 := by kernel_rfl
@[go_sem] theorem ty18_ok : tyok Go.Proofs.Tryd.prog 18 = true := by kernel_rfl
@[go_sem] theorem ty18_z : zeroOf Go.Proofs.Tryd.prog 18 = [C.d (D.v (Value.pointer none))] := by kernel_rfl
@[go_sem] theorem ty18_f0 : fldOf Go.Proofs.Tryd.prog 18 0 = (0, 17) := by kernel_rfl
@[go_sem] theorem ty18_i0 : isFld Go.Proofs.Tryd.prog 18 0 = true := by kernel_rfl
@[go_sem] theorem ty18_b : bldOk Go.Proofs.Tryd.prog 18 = true := by kernel_rfl
@[go_sem] theorem ty19_kd : kdOf Go.Proofs.Tryd.prog 19 = Kd.st := by kernel_rfl
@[go_sem] theorem ty19_sz : szOf Go.Proofs.Tryd.prog 19 = 1 := by kernel_rfl
@[go_sem] theorem ty19_by : byOf Go.Proofs.Tryd.prog 19 = 8 := by kernel_rfl
@[go_sem] theorem ty19_ok : tyok Go.Proofs.Tryd.prog 19 = true := by kernel_rfl
@[go_sem] theorem ty19_z : zeroOf Go.Proofs.Tryd.prog 19 = [C.d (D.v (Value.pointer none))] := by kernel_rfl
@[go_sem] theorem ty19_f0 : fldOf Go.Proofs.Tryd.prog 19 0 = (0, 17) := by kernel_rfl
@[go_sem] theorem ty19_i0 : isFld Go.Proofs.Tryd.prog 19 0 = true := by kernel_rfl
@[go_sem] theorem ty19_b : bldOk Go.Proofs.Tryd.prog 19 = true := by kernel_rfl
@[go_sem] theorem ty20_kd : kdOf Go.Proofs.Tryd.prog 20 = Kd.ifc := by kernel_rfl
@[go_sem] theorem ty20_sz : szOf Go.Proofs.Tryd.prog 20 = 1 := by kernel_rfl
@[go_sem] theorem ty20_by : byOf Go.Proofs.Tryd.prog 20 = 16 := by kernel_rfl
@[go_sem] theorem ty20_ok : tyok Go.Proofs.Tryd.prog 20 = true := by kernel_rfl
@[go_sem] theorem ty20_z : zeroOf Go.Proofs.Tryd.prog 20 = [C.d (D.v (Value.nilIface))] := by kernel_rfl
@[go_sem] theorem ty21_kd : kdOf Go.Proofs.Tryd.prog 21 = Kd.int IntKind.i32 := by kernel_rfl
@[go_sem] theorem ty21_sz : szOf Go.Proofs.Tryd.prog 21 = 1 := by kernel_rfl
@[go_sem] theorem ty21_by : byOf Go.Proofs.Tryd.prog 21 = 4 := by kernel_rfl
@[go_sem] theorem ty21_ok : tyok Go.Proofs.Tryd.prog 21 = true := by kernel_rfl
@[go_sem] theorem ty21_z : zeroOf Go.Proofs.Tryd.prog 21 = [C.d (D.v (Value.int IntKind.i32 0))] := by kernel_rfl
@[go_sem] theorem ty22_kd : kdOf Go.Proofs.Tryd.prog 22 = Kd.sl 5 := by kernel_rfl
@[go_sem] theorem ty22_sz : szOf Go.Proofs.Tryd.prog 22 = 1 := by kernel_rfl
@[go_sem] theorem ty22_by : byOf Go.Proofs.Tryd.prog 22 = 24 := by kernel_rfl
@[go_sem] theorem ty22_ok : tyok Go.Proofs.Tryd.prog 22 = true := by kernel_rfl
@[go_sem] theorem ty22_z : zeroOf Go.Proofs.Tryd.prog 22 = [C.nil] := by kernel_rfl
@[go_sem] theorem ty23_kd : kdOf Go.Proofs.Tryd.prog 23 = Kd.sl 25 := by kernel_rfl
@[go_sem] theorem ty23_sz : szOf Go.Proofs.Tryd.prog 23 = 1 := by kernel_rfl
@[go_sem] theorem ty23_by : byOf Go.Proofs.Tryd.prog 23 = 24 := by kernel_rfl
@[go_sem] theorem ty23_ok : tyok Go.Proofs.Tryd.prog 23 = true := by kernel_rfl
@[go_sem] theorem ty23_z : zeroOf Go.Proofs.Tryd.prog 23 = [C.nil] := by kernel_rfl
@[go_sem] theorem ty24_kd : kdOf Go.Proofs.Tryd.prog 24 = Kd.st := by kernel_rfl
@[go_sem] theorem ty24_sz : szOf Go.Proofs.Tryd.prog 24 = 5 := by kernel_rfl
@[go_sem] theorem ty24_by : byOf Go.Proofs.Tryd.prog 24 = 80 := by kernel_rfl
@[go_sem] theorem ty24_ok : tyok Go.Proofs.Tryd.prog 24 = true := by kernel_rfl
@[go_sem] theorem ty24_z : zeroOf Go.Proofs.Tryd.prog 24 = [C.d (D.v (Value.bool false)), C.d (D.v (Value.bool false)), C.nil, C.nil, C.nil] := by kernel_rfl
@[go_sem] theorem ty24_f0 : fldOf Go.Proofs.Tryd.prog 24 0 = (0, 4) := by kernel_rfl
@[go_sem] theorem ty24_i0 : isFld Go.Proofs.Tryd.prog 24 0 = true := by kernel_rfl
@[go_sem] theorem ty24_f1 : fldOf Go.Proofs.Tryd.prog 24 1 = (1, 4) := by kernel_rfl
@[go_sem] theorem ty24_i1 : isFld Go.Proofs.Tryd.prog 24 1 = true := by kernel_rfl
@[go_sem] theorem ty24_f2 : fldOf Go.Proofs.Tryd.prog 24 2 = (2, 22) := by kernel_rfl
@[go_sem] theorem ty24_i2 : isFld Go.Proofs.Tryd.prog 24 2 = true := by kernel_rfl
@[go_sem] theorem ty24_f3 : fldOf Go.Proofs.Tryd.prog 24 3 = (3, 22) := by kernel_rfl
@[go_sem] theorem ty24_i3 : isFld Go.Proofs.Tryd.prog 24 3 = true := by kernel_rfl
@[go_sem] theorem ty24_f4 : fldOf Go.Proofs.Tryd.prog 24 4 = (4, 23) := by kernel_rfl
@[go_sem] theorem ty24_i4 : isFld Go.Proofs.Tryd.prog 24 4 = true := by kernel_rfl
@[go_sem] theorem ty24_b : bldOk Go.Proofs.Tryd.prog 24 = true := by kernel_rfl
@[go_sem] theorem ty25_kd : kdOf Go.Proofs.Tryd.prog 25 = Kd.st := by kernel_rfl
@[go_sem] theorem ty25_sz : szOf Go.Proofs.Tryd.prog 25 = 5 := by kernel_rfl
@[go_sem] theorem ty25_by : byOf Go.Proofs.Tryd.prog 25 = 80 := by kernel_rfl
@[go_sem] theorem ty25_ok : tyok Go.Proofs.Tryd.prog 25 = true := by kernel_rfl
@[go_sem] theorem ty25_z : zeroOf Go.Proofs.Tryd.prog 25 = [C.d (D.v (Value.bool false)), C.d (D.v (Value.bool false)), C.nil, C.nil, C.nil] := by kernel_rfl
@[go_sem] theorem ty25_f0 : fldOf Go.Proofs.Tryd.prog 25 0 = (0, 4) := by kernel_rfl
@[go_sem] theorem ty25_i0 : isFld Go.Proofs.Tryd.prog 25 0 = true := by kernel_rfl
@[go_sem] theorem ty25_f1 : fldOf Go.Proofs.Tryd.prog 25 1 = (1, 4) := by kernel_rfl
@[go_sem] theorem ty25_i1 : isFld Go.Proofs.Tryd.prog 25 1 = true := by kernel_rfl
@[go_sem] theorem ty25_f2 : fldOf Go.Proofs.Tryd.prog 25 2 = (2, 22) := by kernel_rfl
@[go_sem] theorem ty25_i2 : isFld Go.Proofs.Tryd.prog 25 2 = true := by kernel_rfl
@[go_sem] theorem ty25_f3 : fldOf Go.Proofs.Tryd.prog 25 3 = (3, 22) := by kernel_rfl
@[go_sem] theorem ty25_i3 : isFld Go.Proofs.Tryd.prog 25 3 = true := by kernel_rfl
@[go_sem] theorem ty25_f4 : fldOf Go.Proofs.Tryd.prog 25 4 = (4, 23) := by kernel_rfl
@[go_sem] theorem ty25_i4 : isFld Go.Proofs.Tryd.prog 25 4 = true := by kernel_rfl
@[go_sem] theorem ty25_b : bldOk Go.Proofs.Tryd.prog 25 = true := by kernel_rfl
@[go_sem] theorem ty26_kd : kdOf Go.Proofs.Tryd.prog 26 = Kd.fn := by kernel_rfl
@[go_sem] theorem ty26_sz : szOf Go.Proofs.Tryd.prog 26 = 1 := by kernel_rfl
@[go_sem] theorem ty26_by : byOf Go.Proofs.Tryd.prog 26 = 8 := by kernel_rfl
@[go_sem] theorem ty26_ok : tyok Go.Proofs.Tryd.prog 26 = true := by kernel_rfl
@[go_sem] theorem ty26_z : zeroOf Go.Proofs.Tryd.prog 26 = [C.d (D.v (Value.nilFunc))] := by kernel_rfl
@[go_sem] theorem ty27_kd : kdOf Go.Proofs.Tryd.prog 27 = Kd.fn := by kernel_rfl
@[go_sem] theorem ty27_sz : szOf Go.Proofs.Tryd.prog 27 = 1 := by kernel_rfl
@[go_sem] theorem ty27_by : byOf Go.Proofs.Tryd.prog 27 = 8 := by kernel_rfl
@[go_sem] theorem ty27_ok : tyok Go.Proofs.Tryd.prog 27 = true := by kernel_rfl
@[go_sem] theorem ty27_z : zeroOf Go.Proofs.Tryd.prog 27 = [C.d (D.v (Value.nilFunc))] := by kernel_rfl
@[go_sem] theorem ty28_kd : kdOf Go.Proofs.Tryd.prog 28 = Kd.st := by kernel_rfl
@[go_sem] theorem ty28_sz : szOf Go.Proofs.Tryd.prog 28 = 7 := by kernel_rfl
@[go_sem] theorem ty28_by : byOf Go.Proofs.Tryd.prog 28 = 128 := by kernel_rfl
@[go_sem] theorem ty28_ok : tyok Go.Proofs.Tryd.prog 28 = true := by kernel_rfl
@[go_sem] theorem ty28_z : zeroOf Go.Proofs.Tryd.prog 28 = [C.d (D.v (Value.bool false)), C.d (D.v (Value.bool false)), C.nil, C.nil, C.nil, C.nil, C.nil] := by kernel_rfl
@[go_sem] theorem ty28_f0 : fldOf Go.Proofs.Tryd.prog 28 0 = (0, 25) := by kernel_rfl
@[go_sem] theorem ty28_i0 : isFld Go.Proofs.Tryd.prog 28 0 = true := by kernel_rfl
@[go_sem] theorem ty28_f1 : fldOf Go.Proofs.Tryd.prog 28 1 = (5, 22) := by kernel_rfl
@[go_sem] theorem ty28_i1 : isFld Go.Proofs.Tryd.prog 28 1 = true := by kernel_rfl
@[go_sem] theorem ty28_f2 : fldOf Go.Proofs.Tryd.prog 28 2 = (6, 22) := by kernel_rfl
@[go_sem] theorem ty28_i2 : isFld Go.Proofs.Tryd.prog 28 2 = true := by kernel_rfl
@[go_sem] theorem ty28_b : bldOk Go.Proofs.Tryd.prog 28 = true := by kernel_rfl
@[go_sem] theorem ty29_kd : kdOf Go.Proofs.Tryd.prog 29 = Kd.st := by kernel_rfl
@[go_sem] theorem ty29_sz : szOf Go.Proofs.Tryd.prog 29 = 7 := by kernel_rfl
@[go_sem] theorem ty29_by : byOf Go.Proofs.Tryd.prog 29 = 128 := by kernel_rfl
@[go_sem] theorem ty29_ok : tyok Go.Proofs.Tryd.prog 29 = true := by kernel_rfl
@[go_sem] theorem ty29_z : zeroOf Go.Proofs.Tryd.prog 29 = [C.d (D.v (Value.bool false)), C.d (D.v (Value.bool false)), C.nil, C.nil, C.nil, C.nil, C.nil] := by kernel_rfl
@[go_sem] theorem ty29_f0 : fldOf Go.Proofs.Tryd.prog 29 0 = (0, 25) := by kernel_rfl
@[go_sem] theorem ty29_i0 : isFld Go.Proofs.Tryd.prog 29 0 = true := by kernel_rfl
@[go_sem] theorem ty29_f1 : fldOf Go.Proofs.Tryd.prog 29 1 = (5, 22) := by kernel_rfl
@[go_sem] theorem ty29_i1 : isFld Go.Proofs.Tryd.prog 29 1 = true := by kernel_rfl
@[go_sem] theorem ty29_f2 : fldOf Go.Proofs.Tryd.prog 29 2 = (6, 22) := by kernel_rfl
@[go_sem] theorem ty29_i2 : isFld Go.Proofs.Tryd.prog 29 2 = true := by kernel_rfl
@[go_sem] theorem ty29_b : bldOk Go.Proofs.Tryd.prog 29 = true := by kernel_rfl
@[go_sem] theorem ty30_kd : kdOf Go.Proofs.Tryd.prog 30 = Kd.int IntKind.i64 := by kernel_rfl
@[go_sem] theorem ty30_sz : szOf Go.Proofs.Tryd.prog 30 = 1 := by kernel_rfl
@[go_sem] theorem ty30_by : byOf Go.Proofs.Tryd.prog 30 = 8 := by kernel_rfl
@[go_sem] theorem ty30_ok : tyok Go.Proofs.Tryd.prog 30 = true := by kernel_rfl
@[go_sem] theorem ty30_z : zeroOf Go.Proofs.Tryd.prog 30 = [C.d (D.v (Value.int IntKind.i64 0))] := by kernel_rfl
@[go_sem] theorem ty31_sz : szOf Go.Proofs.Tryd.prog 31 = 1 := by kernel_rfl
@[go_sem] theorem ty31_by : byOf Go.Proofs.Tryd.prog 31 = 0 := by kernel_rfl
@[go_sem] theorem ty31_z : zeroOf Go.Proofs.Tryd.prog 31 = [C.d (D.v (Value.tuple #[Value.agg #[Value.bool false, Value.bool false, Value.slice none 0 0, Value.slice none 0 0, Value.slice none 0 0, Value.slice none 0 0, Value.slice none 0 0], Value.int IntKind.i64 0]))] := by kernel_rfl
@[go_sem] theorem ty32_kd : kdOf Go.Proofs.Tryd.prog 32 = Kd.fn := by kernel_rfl
@[go_sem] theorem ty32_sz : szOf Go.Proofs.Tryd.prog 32 = 1 := by kernel_rfl
@[go_sem] theorem ty32_by : byOf Go.Proofs.Tryd.prog 32 = 8 := by kernel_rfl
@[go_sem] theorem ty32_ok : tyok Go.Proofs.Tryd.prog 32 = true := by kernel_rfl
@[go_sem] theorem ty32_z : zeroOf Go.Proofs.Tryd.prog 32 = [C.d (D.v (Value.nilFunc))] := by kernel_rfl
@[go_sem] theorem ty33_sz : szOf Go.Proofs.Tryd.prog 33 = 1 := by kernel_rfl
@[go_sem] theorem ty33_by : byOf Go.Proofs.Tryd.prog 33 = 0 := by kernel_rfl
@[go_sem] theorem ty33_z : zeroOf Go.Proofs.Tryd.prog 33 = [C.d (D.v (Value.tuple #[Value.agg #[Value.bool false, Value.bool false, Value.slice none 0 0, Value.slice none 0 0, Value.slice none 0 0, Value.slice none 0 0, Value.slice none 0 0], Value.bool false]))] := by kernel_rfl
@[go_sem] theorem ty34_kd : kdOf Go.Proofs.Tryd.prog 34 = Kd.fn := by kernel_rfl
@[go_sem] theorem ty34_sz : szOf Go.Proofs.Tryd.prog 34 = 1 := by kernel_rfl
@[go_sem] theorem ty34_by : byOf Go.Proofs.Tryd.prog 34 = 8 := by kernel_rfl
@[go_sem] theorem ty34_ok : tyok Go.Proofs.Tryd.prog 34 = true := by kernel_rfl
@[go_sem] theorem ty34_z : zeroOf Go.Proofs.Tryd.prog 34 = [C.d (D.v (Value.nilFunc))] := by kernel_rfl
@[go_sem] theorem ty35_kd : kdOf Go.Proofs.Tryd.prog 35 = Kd.fn := by kernel_rfl
@[go_sem] theorem ty35_sz : szOf Go.Proofs.Tryd.prog 35 = 1 := by kernel_rfl
@[go_sem] theorem ty35_by : byOf Go.Proofs.Tryd.prog 35 = 8 := by kernel_rfl
@[go_sem] theorem ty35_ok : tyok Go.Proofs.Tryd.prog 35 = true := by kernel_rfl
@[go_sem] theorem ty35_z : zeroOf Go.Proofs.Tryd.prog 35 = [C.d (D.v (Value.nilFunc))] := by kernel_rfl
@[go_sem] theorem ty36_kd : kdOf Go.Proofs.Tryd.prog 36 = Kd.fn := by kernel_rfl
@[go_sem] theorem ty36_sz : szOf Go.Proofs.Tryd.prog 36 = 1 := by kernel_rfl
@[go_sem] theorem ty36_by : byOf Go.Proofs.Tryd.prog 36 = 8 := by kernel_rfl
@[go_sem] theorem ty36_ok : tyok Go.Proofs.Tryd.prog 36 = true := by kernel_rfl
@[go_sem] theorem ty36_z : zeroOf Go.Proofs.Tryd.prog 36 = [C.d (D.v (Value.nilFunc))] := by kernel_rfl
@[go_sem] theorem ty37_kd : kdOf Go.Proofs.Tryd.prog 37 = Kd.st := by kernel_rfl
@[go_sem] theorem ty37_sz : szOf Go.Proofs.Tryd.prog 37 = 2 := by kernel_rfl
@[go_sem] theorem ty37_by : byOf Go.Proofs.Tryd.prog 37 = 32 := by kernel_rfl
@[go_sem] theorem ty37_ok : tyok Go.Proofs.Tryd.prog 37 = true := by kernel_rfl
@[go_sem] theorem ty37_z : zeroOf Go.Proofs.Tryd.prog 37 = [C.d (D.v (Value.bool false)), C.nil] := by kernel_rfl
@[go_sem] theorem ty37_f0 : fldOf Go.Proofs.Tryd.prog 37 0 = (0, 4) := by kernel_rfl
@[go_sem] theorem ty37_i0 : isFld Go.Proofs.Tryd.prog 37 0 = true := by kernel_rfl
@[go_sem] theorem ty37_f1 : fldOf Go.Proofs.Tryd.prog 37 1 = (1, 22) := by kernel_rfl
@[go_sem] theorem ty37_i1 : isFld Go.Proofs.Tryd.prog 37 1 = true := by kernel_rfl
@[go_sem] theorem ty37_b : bldOk Go.Proofs.Tryd.prog 37 = true := by kernel_rfl
@[go_sem] theorem ty38_kd : kdOf Go.Proofs.Tryd.prog 38 = Kd.st := by kernel_rfl
@[go_sem] theorem ty38_sz : szOf Go.Proofs.Tryd.prog 38 = 2 := by kernel_rfl
@[go_sem] theorem ty38_by : byOf Go.Proofs.Tryd.prog 38 = 32 := by kernel_rfl
@[go_sem] theorem ty38_ok : tyok Go.Proofs.Tryd.prog 38 = true := by kernel_rfl
@[go_sem] theorem ty38_z : zeroOf Go.Proofs.Tryd.prog 38 = [C.d (D.v (Value.bool false)), C.nil] := by kernel_rfl
@[go_sem] theorem ty38_f0 : fldOf Go.Proofs.Tryd.prog 38 0 = (0, 4) := by kernel_rfl
@[go_sem] theorem ty38_i0 : isFld Go.Proofs.Tryd.prog 38 0 = true := by kernel_rfl
@[go_sem] theorem ty38_f1 : fldOf Go.Proofs.Tryd.prog 38 1 = (1, 22) := by kernel_rfl
@[go_sem] theorem ty38_i1 : isFld Go.Proofs.Tryd.prog 38 1 = true := by kernel_rfl
@[go_sem] theorem ty38_b : bldOk Go.Proofs.Tryd.prog 38 = true := by kernel_rfl
@[go_sem] theorem ty39_sz : szOf Go.Proofs.Tryd.prog 39 = 1 := by kernel_rfl
@[go_sem] theorem ty39_by : byOf Go.Proofs.Tryd.prog 39 = 0 := by kernel_rfl
@[go_sem] theorem ty39_z : zeroOf Go.Proofs.Tryd.prog 39 = [C.d (D.v (Value.tuple #[Value.agg #[Value.bool false, Value.bool false, Value.slice none 0 0, Value.slice none 0 0, Value.slice none 0 0], Value.int IntKind.i64 0]))] := by kernel_rfl
@[go_sem] theorem ty40_kd : kdOf Go.Proofs.Tryd.prog 40 = Kd.fn := by kernel_rfl
@[go_sem] theorem ty40_sz : szOf Go.Proofs.Tryd.prog 40 = 1 := by kernel_rfl
@[go_sem] theorem ty40_by : byOf Go.Proofs.Tryd.prog 40 = 8 := by kernel_rfl
@[go_sem] theorem ty40_ok : tyok Go.Proofs.Tryd.prog 40 = true := by kernel_rfl
@[go_sem] theorem ty40_z : zeroOf Go.Proofs.Tryd.prog 40 = [C.d (D.v (Value.nilFunc))] := by kernel_rfl
@[go_sem] theorem ty41_kd : kdOf Go.Proofs.Tryd.prog 41 = Kd.fn := by kernel_rfl
@[go_sem] theorem ty41_sz : szOf Go.Proofs.Tryd.prog 41 = 1 := by kernel_rfl
@[go_sem] theorem ty41_by : byOf Go.Proofs.Tryd.prog 41 = 8 := by kernel_rfl
@[go_sem] theorem ty41_ok : tyok Go.Proofs.Tryd.prog 41 = true := by kernel_rfl
@[go_sem] theorem ty41_z : zeroOf Go.Proofs.Tryd.prog 41 = [C.d (D.v (Value.nilFunc))] := by kernel_rfl
@[go_sem] theorem ty42_kd : kdOf Go.Proofs.Tryd.prog 42 = Kd.fn := by kernel_rfl
@[go_sem] theorem ty42_sz : szOf Go.Proofs.Tryd.prog 42 = 1 := by kernel_rfl
@[go_sem] theorem ty42_by : byOf Go.Proofs.Tryd.prog 42 = 8 := by kernel_rfl
@[go_sem] theorem ty42_ok : tyok Go.Proofs.Tryd.prog 42 = true := by kernel_rfl
@[go_sem] theorem ty42_z : zeroOf Go.Proofs.Tryd.prog 42 = [C.d (D.v (Value.nilFunc))] := by kernel_rfl
@[go_sem] theorem ty43_sz : szOf Go.Proofs.Tryd.prog 43 = 1 := by kernel_rfl
@[go_sem] theorem ty43_by : byOf Go.Proofs.Tryd.prog 43 = 0 := by kernel_rfl
@[go_sem] theorem ty43_z : zeroOf Go.Proofs.Tryd.prog 43 = [C.d (D.v (Value.tuple #[Value.agg #[Value.bool false, Value.slice none 0 0], Value.int IntKind.i64 0]))] := by kernel_rfl
@[go_sem] theorem ty44_kd : kdOf Go.Proofs.Tryd.prog 44 = Kd.fn := by kernel_rfl
@[go_sem] theorem ty44_sz : szOf Go.Proofs.Tryd.prog 44 = 1 := by kernel_rfl
@[go_sem] theorem ty44_by : byOf Go.Proofs.Tryd.prog 44 = 8 := by kernel_rfl
@[go_sem] theorem ty44_ok : tyok Go.Proofs.Tryd.prog 44 = true := by kernel_rfl
@[go_sem] theorem ty44_z : zeroOf Go.Proofs.Tryd.prog 44 = [C.d (D.v (Value.nilFunc))] := by kernel_rfl
@[go_sem] theorem ty45_kd : kdOf Go.Proofs.Tryd.prog 45 = Kd.fn := by kernel_rfl
@[go_sem] theorem ty45_sz : szOf Go.Proofs.Tryd.prog 45 = 1 := by kernel_rfl
@[go_sem] theorem ty45_by : byOf Go.Proofs.Tryd.prog 45 = 8 := by kernel_rfl
@[go_sem] theorem ty45_ok : tyok Go.Proofs.Tryd.prog 45 = true := by kernel_rfl
@[go_sem] theorem ty45_z : zeroOf Go.Proofs.Tryd.prog 45 = [C.d (D.v (Value.nilFunc))] := by kernel_rfl
@[go_sem] theorem ty46_kd : kdOf Go.Proofs.Tryd.prog 46 = Kd.fn := by kernel_rfl
@[go_sem] theorem ty46_sz : szOf Go.Proofs.Tryd.prog 46 = 1 := by kernel_rfl
@[go_sem] theorem ty46_by : byOf Go.Proofs.Tryd.prog 46 = 8 := by kernel_rfl
@[go_sem] theorem ty46_ok : tyok Go.Proofs.Tryd.prog 46 = true := by kernel_rfl
@[go_sem] theorem ty46_z : zeroOf Go.Proofs.Tryd.prog 46 = [C.d (D.v (Value.nilFunc))] := by kernel_rfl
@[go_sem] theorem ty47_sz : szOf Go.Proofs.Tryd.prog 47 = 1 := by kernel_rfl
@[go_sem] theorem ty47_by : byOf Go.Proofs.Tryd.prog 47 = 0 := by kernel_rfl
@[go_sem] theorem ty47_z : zeroOf Go.Proofs.Tryd.prog 47 = [C.d (D.v (Value.tuple #[Value.agg #[Value.bool false, Value.slice none 0 0], Value.bool false]))] := by kernel_rfl
@[go_sem] theorem ty48_kd : kdOf Go.Proofs.Tryd.prog 48 = Kd.fn := by kernel_rfl
@[go_sem] theorem ty48_sz : szOf Go.Proofs.Tryd.prog 48 = 1 := by kernel_rfl
@[go_sem] theorem ty48_by : byOf Go.Proofs.Tryd.prog 48 = 8 := by kernel_rfl
@[go_sem] theorem ty48_ok : tyok Go.Proofs.Tryd.prog 48 = true := by kernel_rfl
@[go_sem] theorem ty48_z : zeroOf Go.Proofs.Tryd.prog 48 = [C.d (D.v (Value.nilFunc))] := by kernel_rfl
@[go_sem] theorem ty49_sz : szOf Go.Proofs.Tryd.prog 49 = 1 := by kernel_rfl
@[go_sem] theorem ty49_by : byOf Go.Proofs.Tryd.prog 49 = 0 := by kernel_rfl
@[go_sem] theorem ty49_z : zeroOf Go.Proofs.Tryd.prog 49 = [C.d (D.v (Value.tuple #[Value.slice none 0 0, Value.int IntKind.i64 0]))] := by kernel_rfl
@[go_sem] theorem ty50_kd : kdOf Go.Proofs.Tryd.prog 50 = Kd.fn := by kernel_rfl
@[go_sem] theorem ty50_sz : szOf Go.Proofs.Tryd.prog 50 = 1 := by kernel_rfl
@[go_sem] theorem ty50_by : byOf Go.Proofs.Tryd.prog 50 = 8 := by kernel_rfl
@[go_sem] theorem ty50_ok : tyok Go.Proofs.Tryd.prog 50 = true := by kernel_rfl
@[go_sem] theorem ty50_z : zeroOf Go.Proofs.Tryd.prog 50 = [C.d (D.v (Value.nilFunc))] := by kernel_rfl
@[go_sem] theorem ty51_kd : kdOf Go.Proofs.Tryd.prog 51 = Kd.fn := by kernel_rfl
@[go_sem] theorem ty51_sz : szOf Go.Proofs.Tryd.prog 51 = 1 := by kernel_rfl
@[go_sem] theorem ty51_by : byOf Go.Proofs.Tryd.prog 51 = 8 := by kernel_rfl
@[go_sem] theorem ty51_ok : tyok Go.Proofs.Tryd.prog 51 = true := by kernel_rfl
@[go_sem] theorem ty51_z : zeroOf Go.Proofs.Tryd.prog 51 = [C.d (D.v (Value.nilFunc))] := by kernel_rfl
@[go_sem] theorem ty52_kd : kdOf Go.Proofs.Tryd.prog 52 = Kd.arr 64 5 := by kernel_rfl
@[go_sem] theorem ty52_sz : szOf Go.Proofs.Tryd.prog 52 = 64 := by kernel_rfl
@[go_sem] theorem ty52_by : byOf Go.Proofs.Tryd.prog 52 = 64 := by kernel_rfl
@[go_sem] theorem ty52_ok : tyok Go.Proofs.Tryd.prog 52 = true := by kernel_rfl
@[go_sem] theorem ty52_z : zeroOf Go.Proofs.Tryd.prog 52 = List.replicate 64 (C.d (D.v (Value.int IntKind.u8 0))) := by kernel_rfl
@[go_sem] theorem ty52_b : bldOk Go.Proofs.Tryd.prog 52 = true := by kernel_rfl
@[go_sem] theorem ty53_sz : szOf Go.Proofs.Tryd.prog 53 = 1 := by kernel_rfl
@[go_sem] theorem ty53_by : byOf Go.Proofs.Tryd.prog 53 = 0 := by kernel_rfl
@[go_sem] theorem ty53_z : zeroOf Go.Proofs.Tryd.prog 53 = [C.d (D.v (Value.tuple #[Value.agg #[Value.int IntKind.u8 0, Value.int IntKind.u8 0, Value.int IntKind.u8 0, Value.int IntKind.u8 0, Value.int IntKind.u8 0, Value.int IntKind.u8 0, Value.int IntKind.u8 0, Value.int IntKind.u8 0, Value.int IntKind.u8 0, Value.int IntKind.u8 0, Value.int IntKind.u8 0, Value.int IntKind.u8 0, Value.int IntKind.u8 0, Value.int IntKind.u8 0, Value.int IntKind.u8 0, Value.int IntKind.u8 0, Value.int IntKind.u8 0, Value.int IntKind.u8 0, Value.int IntKind.u8 0, Value.int IntKind.u8 0, Value.int IntKind.u8 0, Value.int IntKind.u8 0, Value.int IntKind.u8 0, Value.int IntKind.u8 0, Value.int IntKind.u8 0, Value.int IntKind.u8 0, Value.int IntKind.u8 0, Value.int IntKind.u8 0, Value.int IntKind.u8 0, Value.int IntKind.u8 0, Value.int IntKind.u8 0, Value.int IntKind.u8 0, Value.int IntKind.u8 0, Value.int IntKind.u8 0, Value.int IntKind.u8 0, Value.int IntKind.u8 0, Value.int IntKind.u8 0, Value.int IntKind.u8 0, Value.int IntKind.u8 0, Value.int IntKind.u8 0, Value.int IntKind.u8 0, Value.int IntKind.u8 0, Value.int IntKind.u8 0, Value.int IntKind.u8 0, Value.int IntKind.u8 0, Value.int IntKind.u8 0, Value.int IntKind.u8 0, Value.int IntKind.u8 0, Value.int IntKind.u8 0, Value.int IntKind.u8 0, Value.int IntKind.u8 0, Value.int IntKind.u8 0, Value.int IntKind.u8 0, Value.int IntKind.u8 0, Value.int IntKind.u8 0, Value.int IntKind.u8 0, Value.int IntKind.u8 0, Value.int IntKind.u8 0, Value.int IntKind.u8 0, Value.int IntKind.u8 0, Value.int IntKind.u8 0, Value.int IntKind.u8 0, Value.int IntKind.u8 0, Value.int IntKind.u8 0], Value.int IntKind.i64 0]))] := by kernel_rfl
@[go_sem] theorem ty54_kd : kdOf Go.Proofs.Tryd.prog 54 = Kd.fn := by kernel_rfl
@[go_sem] theorem ty54_sz : szOf Go.Proofs.Tryd.prog 54 = 1 := by kernel_rfl
@[go_sem] theorem ty54_by : byOf Go.Proofs.Tryd.prog 54 = 8 := by kernel_rfl
@[go_sem] theorem ty54_ok : tyok Go.Proofs.Tryd.prog 54 = true := by kernel_rfl
@[go_sem] theorem ty54_z : zeroOf Go.Proofs.Tryd.prog 54 = [C.d (D.v (Value.nilFunc))] := by kernel_rfl
@[go_sem] theorem ty55_kd : kdOf Go.Proofs.Tryd.prog 55 = Kd.fn := by kernel_rfl
@[go_sem] theorem ty55_sz : szOf Go.Proofs.Tryd.prog 55 = 1 := by kernel_rfl
@[go_sem] theorem ty55_by : byOf Go.Proofs.Tryd.prog 55 = 8 := by kernel_rfl
@[go_sem] theorem ty55_ok : tyok Go.Proofs.Tryd.prog 55 = true := by kernel_rfl
@[go_sem] theorem ty55_z : zeroOf Go.Proofs.Tryd.prog 55 = [C.d (D.v (Value.nilFunc))] := by kernel_rfl
@[go_sem] theorem ty56_kd : kdOf Go.Proofs.Tryd.prog 56 = Kd.fn := by kernel_rfl
@[go_sem] theorem ty56_sz : szOf Go.Proofs.Tryd.prog 56 = 1 := by kernel_rfl
@[go_sem] theorem ty56_by : byOf Go.Proofs.Tryd.prog 56 = 8 := by kernel_rfl
@[go_sem] theorem ty56_ok : tyok Go.Proofs.Tryd.prog 56 = true := by kernel_rfl
@[go_sem] theorem ty56_z : zeroOf Go.Proofs.Tryd.prog 56 = [C.d (D.v (Value.nilFunc))] := by kernel_rfl
@[go_sem] theorem ty57_kd : kdOf Go.Proofs.Tryd.prog 57 = Kd.fn := by kernel_rfl
@[go_sem] theorem ty57_sz : szOf Go.Proofs.Tryd.prog 57 = 1 := by kernel_rfl
@[go_sem] theorem ty57_by : byOf Go.Proofs.Tryd.prog 57 = 8 := by kernel_rfl
@[go_sem] theorem ty57_ok : tyok Go.Proofs.Tryd.prog 57 = true := by kernel_rfl
@[go_sem] theorem ty57_z : zeroOf Go.Proofs.Tryd.prog 57 = [C.d (D.v (Value.nilFunc))] := by kernel_rfl
@[go_sem] theorem ty58_kd : kdOf Go.Proofs.Tryd.prog 58 = Kd.fn := by kernel_rfl
@[go_sem] theorem ty58_sz : szOf Go.Proofs.Tryd.prog 58 = 1 := by kernel_rfl
@[go_sem] theorem ty58_by : byOf Go.Proofs.Tryd.prog 58 = 8 := by kernel_rfl
@[go_sem] theorem ty58_ok : tyok Go.Proofs.Tryd.prog 58 = true := by kernel_rfl
@[go_sem] theorem ty58_z : zeroOf Go.Proofs.Tryd.prog 58 = [C.d (D.v (Value.nilFunc))] := by kernel_rfl
@[go_sem] theorem ty59_kd : kdOf Go.Proofs.Tryd.prog 59 = Kd.fn := by kernel_rfl
@[go_sem] theorem ty59_sz : szOf Go.Proofs.Tryd.prog 59 = 1 := by kernel_rfl
@[go_sem] theorem ty59_by : byOf Go.Proofs.Tryd.prog 59 = 8 := by kernel_rfl
@[go_sem] theorem ty59_ok : tyok Go.Proofs.Tryd.prog 59 = true := by kernel_rfl
@[go_sem] theorem ty59_z : zeroOf Go.Proofs.Tryd.prog 59 = [C.d (D.v (Value.nilFunc))] := by kernel_rfl
@[go_sem] theorem ty60_kd : kdOf Go.Proofs.Tryd.prog 60 = Kd.fn := by kernel_rfl
@[go_sem] theorem ty60_sz : szOf Go.Proofs.Tryd.prog 60 = 1 := by kernel_rfl
@[go_sem] theorem ty60_by : byOf Go.Proofs.Tryd.prog 60 = 8 := by kernel_rfl
@[go_sem] theorem ty60_ok : tyok Go.Proofs.Tryd.prog 60 = true := by kernel_rfl
@[go_sem] theorem ty60_z : zeroOf Go.Proofs.Tryd.prog 60 = [C.d (D.v (Value.nilFunc))] := by kernel_rfl
@[go_sem] theorem ty61_kd : kdOf Go.Proofs.Tryd.prog 61 = Kd.fn := by kernel_rfl
@[go_sem] theorem ty61_sz : szOf Go.Proofs.Tryd.prog 61 = 1 := by kernel_rfl
@[go_sem] theorem ty61_by : byOf Go.Proofs.Tryd.prog 61 = 8 := by kernel_rfl
@[go_sem] theorem ty61_ok : tyok Go.Proofs.Tryd.prog 61 = true := by kernel_rfl
@[go_sem] theorem ty61_z : zeroOf Go.Proofs.Tryd.prog 61 = [C.d (D.v (Value.nilFunc))] := by kernel_rfl
@[go_sem] theorem ty62_kd : kdOf Go.Proofs.Tryd.prog 62 = Kd.fn := by kernel_rfl
@[go_sem] theorem ty62_sz : szOf Go.Proofs.Tryd.prog 62 = 1 := by kernel_rfl
@[go_sem] theorem ty62_by : byOf Go.Proofs.Tryd.prog 62 = 8 := by kernel_rfl
@[go_sem] theorem ty62_ok : tyok Go.Proofs.Tryd.prog 62 = true := by kernel_rfl
@[go_sem] theorem ty62_z : zeroOf Go.Proofs.Tryd.prog 62 = [C.d (D.v (Value.nilFunc))] := by kernel_rfl
@[go_sem] theorem ty63_kd : kdOf Go.Proofs.Tryd.prog 63 = Kd.fn := by kernel_rfl
@[go_sem] theorem ty63_sz : szOf Go.Proofs.Tryd.prog 63 = 1 := by kernel_rfl
@[go_sem] theorem ty63_by : byOf Go.Proofs.Tryd.prog 63 = 8 := by kernel_rfl
@[go_sem] theorem ty63_ok : tyok Go.Proofs.Tryd.prog 63 = true := by kernel_rfl
@[go_sem] theorem ty63_z : zeroOf Go.Proofs.Tryd.prog 63 = [C.d (D.v (Value.nilFunc))] := by kernel_rfl
@[go_sem] theorem ty64_kd : kdOf Go.Proofs.Tryd.prog 64 = Kd.fn := by kernel_rfl
@[go_sem] theorem ty64_sz : szOf Go.Proofs.Tryd.prog 64 = 1 := by kernel_rfl
@[go_sem] theorem ty64_by : byOf Go.Proofs.Tryd.prog 64 = 8 := by kernel_rfl
@[go_sem] theorem ty64_ok : tyok Go.Proofs.Tryd.prog 64 = true := by kernel_rfl
@[go_sem] theorem ty64_z : zeroOf Go.Proofs.Tryd.prog 64 = [C.d (D.v (Value.nilFunc))] := by kernel_rfl
@[go_sem] theorem ty65_kd : kdOf Go.Proofs.Tryd.prog 65 = Kd.fn := by kernel_rfl
@[go_sem] theorem ty65_sz : szOf Go.Proofs.Tryd.prog 65 = 1 := by kernel_rfl
@[go_sem] theorem ty65_by : byOf Go.Proofs.Tryd.prog 65 = 8 := by kernel_rfl
@[go_sem] theorem ty65_ok : tyok Go.Proofs.Tryd.prog 65 = true := by kernel_rfl
@[go_sem] theorem ty65_z : zeroOf Go.Proofs.Tryd.prog 65 = [C.d (D.v (Value.nilFunc))] := by kernel_rfl
@[go_sem] theorem ty66_kd : kdOf Go.Proofs.Tryd.prog 66 = Kd.sl 38 := by kernel_rfl
@[go_sem] theorem ty66_sz : szOf Go.Proofs.Tryd.prog 66 = 1 := by kernel_rfl
@[go_sem] theorem ty66_by : byOf Go.Proofs.Tryd.prog 66 = 24 := by kernel_rfl
@[go_sem] theorem ty66_ok : tyok Go.Proofs.Tryd.prog 66 = true := by kernel_rfl
@[go_sem] theorem ty66_z : zeroOf Go.Proofs.Tryd.prog 66 = [C.nil] := by kernel_rfl
@[go_sem] theorem ty67_kd : kdOf Go.Proofs.Tryd.prog 67 = Kd.fn := by kernel_rfl
@[go_sem] theorem ty67_sz : szOf Go.Proofs.Tryd.prog 67 = 1 := by kernel_rfl
@[go_sem] theorem ty67_by : byOf Go.Proofs.Tryd.prog 67 = 8 := by kernel_rfl
@[go_sem] theorem ty67_ok : tyok Go.Proofs.Tryd.prog 67 = true := by kernel_rfl
@[go_sem] theorem ty67_z : zeroOf Go.Proofs.Tryd.prog 67 = [C.d (D.v (Value.nilFunc))] := by kernel_rfl
@[go_sem] theorem ty68_kd : kdOf Go.Proofs.Tryd.prog 68 = Kd.fn := by kernel_rfl
@[go_sem] theorem ty68_sz : szOf Go.Proofs.Tryd.prog 68 = 1 := by kernel_rfl
@[go_sem] theorem ty68_by : byOf Go.Proofs.Tryd.prog 68 = 8 := by kernel_rfl
@[go_sem] theorem ty68_ok : tyok Go.Proofs.Tryd.prog 68 = true := by kernel_rfl
@[go_sem] theorem ty68_z : zeroOf Go.Proofs.Tryd.prog 68 = [C.d (D.v (Value.nilFunc))] := by kernel_rfl
@[go_sem] theorem ty69_kd : kdOf Go.Proofs.Tryd.prog 69 = Kd.ptr 71 := by kernel_rfl
@[go_sem] theorem ty69_sz : szOf Go.Proofs.Tryd.prog 69 = 1 := by kernel_rfl
@[go_sem] theorem ty69_by : byOf Go.Proofs.Tryd.prog 69 = 8 := by kernel_rfl
@[go_sem] theorem ty69_ok : tyok Go.Proofs.Tryd.prog 69 = true := by kernel_rfl
@[go_sem] theorem ty69_z : zeroOf Go.Proofs.Tryd.prog 69 = [C.d (D.v (Value.pointer none))] := by kernel_rfl
@[go_sem] theorem ty70_kd : kdOf Go.Proofs.Tryd.prog 70 = Kd.st := by kernel_rfl
@[go_sem] theorem ty70_sz : szOf Go.Proofs.Tryd.prog 70 = 2 := by kernel_rfl
@[go_sem] theorem ty70_by : byOf Go.Proofs.Tryd.prog 70 = 16 := by kernel_rfl
@[go_sem] theorem ty70_ok : tyok Go.Proofs.Tryd.prog 70 = true := by kernel_rfl
@[go_sem] theorem ty70_z : zeroOf Go.Proofs.Tryd.prog 70 = [C.d (D.v (Value.int IntKind.i64 0)), C.d (D.v (Value.int IntKind.i64 0))] := by kernel_rfl
@[go_sem] theorem ty70_f0 : fldOf Go.Proofs.Tryd.prog 70 0 = (0, 3) := by kernel_rfl
@[go_sem] theorem ty70_i0 : isFld Go.Proofs.Tryd.prog 70 0 = true := by kernel_rfl
@[go_sem] theorem ty70_f1 : fldOf Go.Proofs.Tryd.prog 70 1 = (1, 3) := by kernel_rfl
@[go_sem] theorem ty70_i1 : isFld Go.Proofs.Tryd.prog 70 1 = true := by kernel_rfl
@[go_sem] theorem ty70_b : bldOk Go.Proofs.Tryd.prog 70 = true := by kernel_rfl
@[go_sem] theorem ty71_kd : kdOf Go.Proofs.Tryd.prog 71 = Kd.st := by kernel_rfl
@[go_sem] theorem ty71_sz : szOf Go.Proofs.Tryd.prog 71 = 2 := by kernel_rfl
@[go_sem] theorem ty71_by : byOf Go.Proofs.Tryd.prog 71 = 16 := by kernel_rfl
@[go_sem] theorem ty71_ok : tyok Go.Proofs.Tryd.prog 71 = true := by kernel_rfl
@[go_sem] theorem ty71_z : zeroOf Go.Proofs.Tryd.prog 71 = [C.d (D.v (Value.int IntKind.i64 0)), C.d (D.v (Value.int IntKind.i64 0))] := by kernel_rfl
@[go_sem] theorem ty71_f0 : fldOf Go.Proofs.Tryd.prog 71 0 = (0, 3) := by kernel_rfl
@[go_sem] theorem ty71_i0 : isFld Go.Proofs.Tryd.prog 71 0 = true := by kernel_rfl
@[go_sem] theorem ty71_f1 : fldOf Go.Proofs.Tryd.prog 71 1 = (1, 3) := by kernel_rfl
@[go_sem] theorem ty71_i1 : isFld Go.Proofs.Tryd.prog 71 1 = true := by kernel_rfl
@[go_sem] theorem ty71_b : bldOk Go.Proofs.Tryd.prog 71 = true := by kernel_rfl
@[go_sem] theorem ty72_kd : kdOf Go.Proofs.Tryd.prog 72 = Kd.fn := by kernel_rfl
@[go_sem] theorem ty72_sz : szOf Go.Proofs.Tryd.prog 72 = 1 := by kernel_rfl
@[go_sem] theorem ty72_by : byOf Go.Proofs.Tryd.prog 72 = 8 := by kernel_rfl
@[go_sem] theorem ty72_ok : tyok Go.Proofs.Tryd.prog 72 = true := by kernel_rfl
@[go_sem] theorem ty72_z : zeroOf Go.Proofs.Tryd.prog 72 = [C.d (D.v (Value.nilFunc))] := by kernel_rfl
@[go_sem] theorem ty73_kd : kdOf Go.Proofs.Tryd.prog 73 = Kd.fn := by kernel_rfl
@[go_sem] theorem ty73_sz : szOf Go.Proofs.Tryd.prog 73 = 1 := by kernel_rfl
@[go_sem] theorem ty73_by : byOf Go.Proofs.Tryd.prog 73 = 8 := by kernel_rfl
@[go_sem] theorem ty73_ok : tyok Go.Proofs.Tryd.prog 73 = true := by kernel_rfl
@[go_sem] theorem ty73_z : zeroOf Go.Proofs.Tryd.prog 73 = [C.d (D.v (Value.nilFunc))] := by kernel_rfl
@[go_sem] theorem ty74_kd : kdOf Go.Proofs.Tryd.prog 74 = Kd.ptr 25 := by kernel_rfl
@[go_sem] theorem ty74_sz : szOf Go.Proofs.Tryd.prog 74 = 1 := by kernel_rfl
@[go_sem] theorem ty74_by : byOf Go.Proofs.Tryd.prog 74 = 8 := by kernel_rfl
@[go_sem] theorem ty74_ok : tyok Go.Proofs.Tryd.prog 74 = true := by kernel_rfl
@[go_sem] theorem ty74_z : zeroOf Go.Proofs.Tryd.prog 74 = [C.d (D.v (Value.pointer none))] := by kernel_rfl
@[go_sem] theorem ty75_kd : kdOf Go.Proofs.Tryd.prog 75 = Kd.sl 74 := by kernel_rfl
@[go_sem] theorem ty75_sz : szOf Go.Proofs.Tryd.prog 75 = 1 := by kernel_rfl
@[go_sem] theorem ty75_by : byOf Go.Proofs.Tryd.prog 75 = 24 := by kernel_rfl
@[go_sem] theorem ty75_ok : tyok Go.Proofs.Tryd.prog 75 = true := by kernel_rfl
@[go_sem] theorem ty75_z : zeroOf Go.Proofs.Tryd.prog 75 = [C.nil] := by kernel_rfl
@[go_sem] theorem ty76_kd : kdOf Go.Proofs.Tryd.prog 76 = Kd.fn := by kernel_rfl
@[go_sem] theorem ty76_sz : szOf Go.Proofs.Tryd.prog 76 = 1 := by kernel_rfl
@[go_sem] theorem ty76_by : byOf Go.Proofs.Tryd.prog 76 = 8 := by kernel_rfl
@[go_sem] theorem ty76_ok : tyok Go.Proofs.Tryd.prog 76 = true := by kernel_rfl
@[go_sem] theorem ty76_z : zeroOf Go.Proofs.Tryd.prog 76 = [C.d (D.v (Value.nilFunc))] := by kernel_rfl
@[go_sem] theorem ty77_kd : kdOf Go.Proofs.Tryd.prog 77 = Kd.sl 22 := by kernel_rfl
@[go_sem] theorem ty77_sz : szOf Go.Proofs.Tryd.prog 77 = 1 := by kernel_rfl
@[go_sem] theorem ty77_by : byOf Go.Proofs.Tryd.prog 77 = 24 := by kernel_rfl
@[go_sem] theorem ty77_ok : tyok Go.Proofs.Tryd.prog 77 = true := by kernel_rfl
@[go_sem] theorem ty77_z : zeroOf Go.Proofs.Tryd.prog 77 = [C.nil] := by kernel_rfl
@[go_sem] theorem ty78_kd : kdOf Go.Proofs.Tryd.prog 78 = Kd.ptr 92 := by kernel_rfl
@[go_sem] theorem ty78_sz : szOf Go.Proofs.Tryd.prog 78 = 1 := by kernel_rfl
@[go_sem] theorem ty78_by : byOf Go.Proofs.Tryd.prog 78 = 8 := by kernel_rfl
@[go_sem] theorem ty78_ok : tyok Go.Proofs.Tryd.prog 78 = true := by kernel_rfl
@[go_sem] theorem ty78_z : zeroOf Go.Proofs.Tryd.prog 78 = [C.d (D.v (Value.pointer none))] := by kernel_rfl
@[go_sem] theorem ty79_kd : kdOf Go.Proofs.Tryd.prog 79 = Kd.fn := by kernel_rfl
@[go_sem] theorem ty79_sz : szOf Go.Proofs.Tryd.prog 79 = 1 := by kernel_rfl
@[go_sem] theorem ty79_by : byOf Go.Proofs.Tryd.prog 79 = 8 := by kernel_rfl
@[go_sem] theorem ty79_ok : tyok Go.Proofs.Tryd.prog 79 = true := by kernel_rfl
@[go_sem] theorem ty79_z : zeroOf Go.Proofs.Tryd.prog 79 = [C.d (D.v (Value.nilFunc))] := by kernel_rfl
@[go_sem] theorem ty80_kd : kdOf Go.Proofs.Tryd.prog 80 = Kd.fn := by kernel_rfl
@[go_sem] theorem ty80_sz : szOf Go.Proofs.Tryd.prog 80 = 1 := by kernel_rfl
@[go_sem] theorem ty80_by : byOf Go.Proofs.Tryd.prog 80 = 8 := by kernel_rfl
@[go_sem] theorem ty80_ok : tyok Go.Proofs.Tryd.prog 80 = true := by kernel_rfl
@[go_sem] theorem ty80_z : zeroOf Go.Proofs.Tryd.prog 80 = [C.d (D.v (Value.nilFunc))] := by kernel_rfl
@[go_sem] theorem ty81_kd : kdOf Go.Proofs.Tryd.prog 81 = Kd.fn := by kernel_rfl
@[go_sem] theorem ty81_sz : szOf Go.Proofs.Tryd.prog 81 = 1 := by kernel_rfl
@[go_sem] theorem ty81_by : byOf Go.Proofs.Tryd.prog 81 = 8 := by kernel_rfl
@[go_sem] theorem ty81_ok : tyok Go.Proofs.Tryd.prog 81 = true := by kernel_rfl
@[go_sem] theorem ty81_z : zeroOf Go.Proofs.Tryd.prog 81 = [C.d (D.v (Value.nilFunc))] := by kernel_rfl
@[go_sem] theorem ty82_kd : kdOf Go.Proofs.Tryd.prog 82 = Kd.int IntKind.u64 := by kernel_rfl
@[go_sem] theorem ty82_sz : szOf Go.Proofs.Tryd.prog 82 = 1 := by kernel_rfl
@[go_sem] theorem ty82_by : byOf Go.Proofs.Tryd.prog 82 = 8 := by kernel_rfl
@[go_sem] theorem ty82_ok : tyok Go.Proofs.Tryd.prog 82 = true := by kernel_rfl
@[go_sem] theorem ty82_z : zeroOf Go.Proofs.Tryd.prog 82 = [C.d (D.v (Value.int IntKind.u64 0))] := by kernel_rfl
@[go_sem] theorem ty83_kd : kdOf Go.Proofs.Tryd.prog 83 = Kd.arr 8 82 := by kernel_rfl
@[go_sem] theorem ty83_sz : szOf Go.Proofs.Tryd.prog 83 = 8 := by kernel_rfl
@[go_sem] theorem ty83_by : byOf Go.Proofs.Tryd.prog 83 = 64 := by kernel_rfl
@[go_sem] theorem ty83_ok : tyok Go.Proofs.Tryd.prog 83 = true := by kernel_rfl
@[go_sem] theorem ty83_z : zeroOf Go.Proofs.Tryd.prog 83 = List.replicate 8 (C.d (D.v (Value.int IntKind.u64 0))) := by kernel_rfl
@[go_sem] theorem ty83_b : bldOk Go.Proofs.Tryd.prog 83 = true := by kernel_rfl
@[go_sem] theorem ty84_kd : kdOf Go.Proofs.Tryd.prog 84 = Kd.fn := by kernel_rfl
@[go_sem] theorem ty84_sz : szOf Go.Proofs.Tryd.prog 84 = 1 := by kernel_rfl
@[go_sem] theorem ty84_by : byOf Go.Proofs.Tryd.prog 84 = 8 := by kernel_rfl
@[go_sem] theorem ty84_ok : tyok Go.Proofs.Tryd.prog 84 = true := by kernel_rfl
@[go_sem] theorem ty84_z : zeroOf Go.Proofs.Tryd.prog 84 = [C.d (D.v (Value.nilFunc))] := by kernel_rfl
@[go_sem] theorem ty86_kd : kdOf Go.Proofs.Tryd.prog 86 = Kd.fn := by kernel_rfl
@[go_sem] theorem ty86_sz : szOf Go.Proofs.Tryd.prog 86 = 1 := by kernel_rfl
@[go_sem] theorem ty86_by : byOf Go.Proofs.Tryd.prog 86 = 8 := by kernel_rfl
@[go_sem] theorem ty86_ok : tyok Go.Proofs.Tryd.prog 86 = true := by kernel_rfl
@[go_sem] theorem ty86_z : zeroOf Go.Proofs.Tryd.prog 86 = [C.d (D.v (Value.nilFunc))] := by kernel_rfl
@[go_sem] theorem ty87_kd : kdOf Go.Proofs.Tryd.prog 87 = Kd.sl 82 := by kernel_rfl
@[go_sem] theorem ty87_sz : szOf Go.Proofs.Tryd.prog 87 = 1 := by kernel_rfl
@[go_sem] theorem ty87_by : byOf Go.Proofs.Tryd.prog 87 = 24 := by kernel_rfl
@[go_sem] theorem ty87_ok : tyok Go.Proofs.Tryd.prog 87 = true := by kernel_rfl
@[go_sem] theorem ty87_z : zeroOf Go.Proofs.Tryd.prog 87 = [C.nil] := by kernel_rfl
@[go_sem] theorem ty88_kd : kdOf Go.Proofs.Tryd.prog 88 = Kd.fn := by kernel_rfl
@[go_sem] theorem ty88_sz : szOf Go.Proofs.Tryd.prog 88 = 1 := by kernel_rfl
@[go_sem] theorem ty88_by : byOf Go.Proofs.Tryd.prog 88 = 8 := by kernel_rfl
@[go_sem] theorem ty88_ok : tyok Go.Proofs.Tryd.prog 88 = true := by kernel_rfl
@[go_sem] theorem ty88_z : zeroOf Go.Proofs.Tryd.prog 88 = [C.d (D.v (Value.nilFunc))] := by kernel_rfl
@[go_sem] theorem ty89_kd : kdOf Go.Proofs.Tryd.prog 89 = Kd.int IntKind.u64 := by kernel_rfl
@[go_sem] theorem ty89_sz : szOf Go.Proofs.Tryd.prog 89 = 1 := by kernel_rfl
@[go_sem] theorem ty89_by : byOf Go.Proofs.Tryd.prog 89 = 8 := by kernel_rfl
@[go_sem] theorem ty89_ok : tyok Go.Proofs.Tryd.prog 89 = true := by kernel_rfl
@[go_sem] theorem ty89_z : zeroOf Go.Proofs.Tryd.prog 89 = [C.d (D.v (Value.int IntKind.u64 0))] := by kernel_rfl
@[go_sem] theorem ty90_kd : kdOf Go.Proofs.Tryd.prog 90 = Kd.fn := by kernel_rfl
@[go_sem] theorem ty90_sz : szOf Go.Proofs.Tryd.prog 90 = 1 := by kernel_rfl
@[go_sem] theorem ty90_by : byOf Go.Proofs.Tryd.prog 90 = 8 := by kernel_rfl
@[go_sem] theorem ty90_ok : tyok Go.Proofs.Tryd.prog 90 = true := by kernel_rfl
@[go_sem] theorem ty90_z : zeroOf Go.Proofs.Tryd.prog 90 = [C.d (D.v (Value.nilFunc))] := by kernel_rfl
@[go_sem] theorem ty93_sz : szOf Go.Proofs.Tryd.prog 93 = 1 := by kernel_rfl
@[go_sem] theorem ty93_by : byOf Go.Proofs.Tryd.prog 93 = 0 := by kernel_rfl
@[go_sem] theorem ty93_z : zeroOf Go.Proofs.Tryd.prog 93 = [C.d (D.v (Value.tuple #[Value.agg #[Value.int IntKind.u64 0, Value.int IntKind.u64 0, Value.int IntKind.u64 0, Value.int IntKind.u64 0, Value.int IntKind.u64 0, Value.int IntKind.u64 0, Value.int IntKind.u64 0, Value.int IntKind.u64 0], Value.agg ([Value.int IntKind.u64 0, Value.int IntKind.u64 0, Value.int IntKind.u64 0, Value.int IntKind.u64 0, Value.int IntKind.u64 0, Value.int IntKind.u64 0, Value.int IntKind.u64 0, Value.int IntKind.u64 0, Value.int IntKind.u64 0, Value.int IntKind.u64 0, Value.int IntKind.u64 0, Value.int IntKind.u64 0, Value.int IntKind.u64 0, Value.int IntKind.u64 0, Value.int IntKind.u64 0, Value.int IntKind.u64 0, Value.int IntKind.u64 0, Value.int IntKind.u64 0, Value.int IntKind.u64 0, Value.int IntKind.u64 0, Value.int IntKind.u64 0, Value.int IntKind.u64 0, Value.int IntKind.u64 0, Value.int IntKind.u64 0, Value.int IntKind.u64 0, Value.int IntKind.u64 0, Value.int IntKind.u64 0, Value.int IntKind.u64 0, Value.int IntKind.u64 0, Value.int IntKind.u64 0, Value.int IntKind.u64 0, Value.int IntKind.u64 0, Value.int IntKind.u64 0, Value.int IntKind.u64 0, Value.int IntKind.u64 0, Value.int IntKind.u64 0, Value.int IntKind.u64 0, Value.int IntKind.u64 0, Value.int IntKind.u64 0, Value.int IntKind.u64 0].append [Value.int IntKind.u64 0, Value.int IntKind.u64 0, Value.int IntKind.u64 0, Value.int IntKind.u64 0, Value.int IntKind.u64 0, Value.int IntKind.u64 0, Value.int IntKind.u64 0, Value.int IntKind.u64 0, Value.int IntKind.u64 0, Value.int IntKind.u64 0, Value.int IntKind.u64 0, Value.int IntKind.u64 0, Value.int IntKind.u64 0, Value.int IntKind.u64 0, Value.int IntKind.u64 0, Value.int IntKind.u64 0, Value.int IntKind.u64 0, Value.int IntKind.u64 0, Value.int IntKind.u64 0, Value.int IntKind.u64 0, Value.int IntKind.u64 0, Value.int IntKind.u64 0, Value.int IntKind.u64 0, Value.int IntKind.u64 0, Value.int IntKind.u64 0, Value.int IntKind.u64 0, Value.int IntKind.u64 0, Value.int IntKind.u64 0, Value.int IntKind.u64 0, Value.int IntKind.u64 0, Value.int IntKind.u64 0, Value.int IntKind.u64 0, Value.int IntKind.u64 0, Value.int IntKind.u64 0, Value.int IntKind.u64 0, Value.int IntKind.u64 0, Value.int IntKind.u64 0, Value.int IntKind.u64 0, Value.int IntKind.u64 0, Value.int IntKind.u64 0]).toArray]))] := by kernel_rfl
@[go_sem] theorem ty94_kd : kdOf Go.Proofs.Tryd.prog 94 = Kd.fn := by kernel_rfl
@[go_sem] theorem ty94_sz : szOf Go.Proofs.Tryd.prog 94 = 1 := by kernel_rfl
@[go_sem] theorem ty94_by : byOf Go.Proofs.Tryd.prog 94 = 8 := by kernel_rfl
@[go_sem] theorem ty94_ok : tyok Go.Proofs.Tryd.prog 94 = true := by kernel_rfl
@[go_sem] theorem ty94_z : zeroOf Go.Proofs.Tryd.prog 94 = [C.d (D.v (Value.nilFunc))] := by kernel_rfl
@[go_sem] theorem ty95_kd : kdOf Go.Proofs.Tryd.prog 95 = Kd.fn := by kernel_rfl
@[go_sem] theorem ty95_sz : szOf Go.Proofs.Tryd.prog 95 = 1 := by kernel_rfl
@[go_sem] theorem ty95_by : byOf Go.Proofs.Tryd.prog 95 = 8 := by kernel_rfl
@[go_sem] theorem ty95_ok : tyok Go.Proofs.Tryd.prog 95 = true := by kernel_rfl
@[go_sem] theorem ty95_z : zeroOf Go.Proofs.Tryd.prog 95 = [C.d (D.v (Value.nilFunc))] := by kernel_rfl
@[go_sem] theorem ty96_kd : kdOf Go.Proofs.Tryd.prog 96 = Kd.arr 4 82 := by kernel_rfl
@[go_sem] theorem ty96_sz : szOf Go.Proofs.Tryd.prog 96 = 4 := by kernel_rfl
@[go_sem] theorem ty96_by : byOf Go.Proofs.Tryd.prog 96 = 32 := by kernel_rfl
@[go_sem] theorem ty96_ok : tyok Go.Proofs.Tryd.prog 96 = true := by kernel_rfl
@[go_sem] theorem ty96_z : zeroOf Go.Proofs.Tryd.prog 96 = [C.d (D.v (Value.int IntKind.u64 0)), C.d (D.v (Value.int IntKind.u64 0)), C.d (D.v (Value.int IntKind.u64 0)), C.d (D.v (Value.int IntKind.u64 0))] := by kernel_rfl
@[go_sem] theorem ty96_b : bldOk Go.Proofs.Tryd.prog 96 = true := by kernel_rfl
@[go_sem] theorem ty97_kd : kdOf Go.Proofs.Tryd.prog 97 = Kd.arr 4 82 := by kernel_rfl
@[go_sem] theorem ty97_sz : szOf Go.Proofs.Tryd.prog 97 = 4 := by kernel_rfl
@[go_sem] theorem ty97_by : byOf Go.Proofs.Tryd.prog 97 = 32 := by kernel_rfl
@[go_sem] theorem ty97_ok : tyok Go.Proofs.Tryd.prog 97 = true := by kernel_rfl
@[go_sem] theorem ty97_z : zeroOf Go.Proofs.Tryd.prog 97 = [C.d (D.v (Value.int IntKind.u64 0)), C.d (D.v (Value.int IntKind.u64 0)), C.d (D.v (Value.int IntKind.u64 0)), C.d (D.v (Value.int IntKind.u64 0))] := by kernel_rfl
@[go_sem] theorem ty97_b : bldOk Go.Proofs.Tryd.prog 97 = true := by kernel_rfl
@[go_sem] theorem ty98_kd : kdOf Go.Proofs.Tryd.prog 98 = Kd.fn := by kernel_rfl
@[go_sem] theorem ty98_sz : szOf Go.Proofs.Tryd.prog 98 = 1 := by kernel_rfl
@[go_sem] theorem ty98_by : byOf Go.Proofs.Tryd.prog 98 = 8 := by kernel_rfl
@[go_sem] theorem ty98_ok : tyok Go.Proofs.Tryd.prog 98 = true := by kernel_rfl
@[go_sem] theorem ty98_z : zeroOf Go.Proofs.Tryd.prog 98 = [C.d (D.v (Value.nilFunc))] := by kernel_rfl
@[go_sem] theorem ty99_kd : kdOf Go.Proofs.Tryd.prog 99 = Kd.fn := by kernel_rfl
@[go_sem] theorem ty99_sz : szOf Go.Proofs.Tryd.prog 99 = 1 := by kernel_rfl
@[go_sem] theorem ty99_by : byOf Go.Proofs.Tryd.prog 99 = 8 := by kernel_rfl
@[go_sem] theorem ty99_ok : tyok Go.Proofs.Tryd.prog 99 = true := by kernel_rfl
@[go_sem] theorem ty99_z : zeroOf Go.Proofs.Tryd.prog 99 = [C.d (D.v (Value.nilFunc))] := by kernel_rfl
@[go_sem] theorem ty100_kd : kdOf Go.Proofs.Tryd.prog 100 = Kd.fn := by kernel_rfl
@[go_sem] theorem ty100_sz : szOf Go.Proofs.Tryd.prog 100 = 1 := by kernel_rfl
@[go_sem] theorem ty100_by : byOf Go.Proofs.Tryd.prog 100 = 8 := by kernel_rfl
@[go_sem] theorem ty100_ok : tyok Go.Proofs.Tryd.prog 100 = true := by kernel_rfl
@[go_sem] theorem ty100_z : zeroOf Go.Proofs.Tryd.prog 100 = [C.d (D.v (Value.nilFunc))] := by kernel_rfl
@[go_sem] theorem ty101_sz : szOf Go.Proofs.Tryd.prog 101 = 1 := by kernel_rfl
@[go_sem] theorem ty101_by : byOf Go.Proofs.Tryd.prog 101 = 0 := by kernel_rfl
@[go_sem] theorem ty101_z : zeroOf Go.Proofs.Tryd.prog 101 = [C.d (D.v (Value.tuple #[Value.int IntKind.u64 0, Value.int IntKind.u64 0]))] := by kernel_rfl
@[go_sem] theorem ty102_kd : kdOf Go.Proofs.Tryd.prog 102 = Kd.fn := by kernel_rfl
@[go_sem] theorem ty102_sz : szOf Go.Proofs.Tryd.prog 102 = 1 := by kernel_rfl
@[go_sem] theorem ty102_by : byOf Go.Proofs.Tryd.prog 102 = 8 := by kernel_rfl
@[go_sem] theorem ty102_ok : tyok Go.Proofs.Tryd.prog 102 = true := by kernel_rfl
@[go_sem] theorem ty102_z : zeroOf Go.Proofs.Tryd.prog 102 = [C.d (D.v (Value.nilFunc))] := by kernel_rfl
@[go_sem] theorem ty103_kd : kdOf Go.Proofs.Tryd.prog 103 = Kd.fn := by kernel_rfl
@[go_sem] theorem ty103_sz : szOf Go.Proofs.Tryd.prog 103 = 1 := by kernel_rfl
@[go_sem] theorem ty103_by : byOf Go.Proofs.Tryd.prog 103 = 8 := by kernel_rfl
@[go_sem] theorem ty103_ok : tyok Go.Proofs.Tryd.prog 103 = true := by kernel_rfl
@[go_sem] theorem ty103_z : zeroOf Go.Proofs.Tryd.prog 103 = [C.d (D.v (Value.nilFunc))] := by kernel_rfl
@[go_sem] theorem ty104_kd : kdOf Go.Proofs.Tryd.prog 104 = Kd.arr 24 5 := by kernel_rfl
@[go_sem] theorem ty104_sz : szOf Go.Proofs.Tryd.prog 104 = 24 := by kernel_rfl
@[go_sem] theorem ty104_by : byOf Go.Proofs.Tryd.prog 104 = 24 := by kernel_rfl
@[go_sem] theorem ty104_ok : tyok Go.Proofs.Tryd.prog 104 = true := by kernel_rfl
@[go_sem] theorem ty104_z : zeroOf Go.Proofs.Tryd.prog 104 = List.replicate 24 (C.d (D.v (Value.int IntKind.u8 0))) := by kernel_rfl
@[go_sem] theorem ty104_b : bldOk Go.Proofs.Tryd.prog 104 = true := by kernel_rfl
@[go_sem] theorem ty105_kd : kdOf Go.Proofs.Tryd.prog 105 = Kd.fn := by kernel_rfl
@[go_sem] theorem ty105_sz : szOf Go.Proofs.Tryd.prog 105 = 1 := by kernel_rfl
@[go_sem] theorem ty105_by : byOf Go.Proofs.Tryd.prog 105 = 8 := by kernel_rfl
@[go_sem] theorem ty105_ok : tyok Go.Proofs.Tryd.prog 105 = true := by kernel_rfl
@[go_sem] theorem ty105_z : zeroOf Go.Proofs.Tryd.prog 105 = [C.d (D.v (Value.nilFunc))] := by kernel_rfl
@[go_sem] theorem ty106_kd : kdOf Go.Proofs.Tryd.prog 106 = Kd.fn := by kernel_rfl
@[go_sem] theorem ty106_sz : szOf Go.Proofs.Tryd.prog 106 = 1 := by kernel_rfl
@[go_sem] theorem ty106_by : byOf Go.Proofs.Tryd.prog 106 = 8 := by kernel_rfl
@[go_sem] theorem ty106_ok : tyok Go.Proofs.Tryd.prog 106 = true := by kernel_rfl
@[go_sem] theorem ty106_z : zeroOf Go.Proofs.Tryd.prog 106 = [C.d (D.v (Value.nilFunc))] := by kernel_rfl
@[go_sem] theorem ty107_sz : szOf Go.Proofs.Tryd.prog 107 = 1 := by kernel_rfl
@[go_sem] theorem ty107_by : byOf Go.Proofs.Tryd.prog 107 = 0 := by kernel_rfl
@[go_sem] theorem ty107_z : zeroOf Go.Proofs.Tryd.prog 107 = [C.d (D.v (Value.tuple #[Value.slice none 0 0, Value.string { data := #[] }]))] := by kernel_rfl
@[go_sem] theorem ty108_kd : kdOf Go.Proofs.Tryd.prog 108 = Kd.fn := by kernel_rfl
@[go_sem] theorem ty108_sz : szOf Go.Proofs.Tryd.prog 108 = 1 := by kernel_rfl
@[go_sem] theorem ty108_by : byOf Go.Proofs.Tryd.prog 108 = 8 := by kernel_rfl
@[go_sem] theorem ty108_ok : tyok Go.Proofs.Tryd.prog 108 = true := by kernel_rfl
@[go_sem] theorem ty108_z : zeroOf Go.Proofs.Tryd.prog 108 = [C.d (D.v (Value.nilFunc))] := by kernel_rfl
@[go_sem] theorem ty109_kd : kdOf Go.Proofs.Tryd.prog 109 = Kd.fn := by kernel_rfl
@[go_sem] theorem ty109_sz : szOf Go.Proofs.Tryd.prog 109 = 1 := by kernel_rfl
@[go_sem] theorem ty109_by : byOf Go.Proofs.Tryd.prog 109 = 8 := by kernel_rfl
@[go_sem] theorem ty109_ok : tyok Go.Proofs.Tryd.prog 109 = true := by kernel_rfl
@[go_sem] theorem ty109_z : zeroOf Go.Proofs.Tryd.prog 109 = [C.d (D.v (Value.nilFunc))] := by kernel_rfl
@[go_sem] theorem ty110_kd : kdOf Go.Proofs.Tryd.prog 110 = Kd.fn := by kernel_rfl
@[go_sem] theorem ty110_sz : szOf Go.Proofs.Tryd.prog 110 = 1 := by kernel_rfl
@[go_sem] theorem ty110_by : byOf Go.Proofs.Tryd.prog 110 = 8 := by kernel_rfl
@[go_sem] theorem ty110_ok : tyok Go.Proofs.Tryd.prog 110 = true := by kernel_rfl
@[go_sem] theorem ty110_z : zeroOf Go.Proofs.Tryd.prog 110 = [C.d (D.v (Value.nilFunc))] := by kernel_rfl
@[go_sem] theorem ty111_kd : kdOf Go.Proofs.Tryd.prog 111 = Kd.arr 20 82 := by kernel_rfl
@[go_sem] theorem ty111_sz : szOf Go.Proofs.Tryd.prog 111 = 20 := by kernel_rfl
@[go_sem] theorem ty111_by : byOf Go.Proofs.Tryd.prog 111 = 160 := by kernel_rfl
@[go_sem] theorem ty111_ok : tyok Go.Proofs.Tryd.prog 111 = true := by kernel_rfl
@[go_sem] theorem ty111_z : zeroOf Go.Proofs.Tryd.prog 111 = List.replicate 20 (C.d (D.v (Value.int IntKind.u64 0))) := by kernel_rfl
@[go_sem] theorem ty111_b : bldOk Go.Proofs.Tryd.prog 111 = true := by kernel_rfl
@[go_sem] theorem ty112_kd : kdOf Go.Proofs.Tryd.prog 112 = Kd.int IntKind.u32 := by kernel_rfl
@[go_sem] theorem ty112_sz : szOf Go.Proofs.Tryd.prog 112 = 1 := by kernel_rfl
@[go_sem] theorem ty112_by : byOf Go.Proofs.Tryd.prog 112 = 4 := by kernel_rfl
@[go_sem] theorem ty112_ok : tyok Go.Proofs.Tryd.prog 112 = true := by kernel_rfl
@[go_sem] theorem ty112_z : zeroOf Go.Proofs.Tryd.prog 112 = [C.d (D.v (Value.int IntKind.u32 0))] := by kernel_rfl
@[go_sem] theorem ty114_kd : kdOf Go.Proofs.Tryd.prog 114 = Kd.fn := by kernel_rfl
@[go_sem] theorem ty114_sz : szOf Go.Proofs.Tryd.prog 114 = 1 := by kernel_rfl
@[go_sem] theorem ty114_by : byOf Go.Proofs.Tryd.prog 114 = 8 := by kernel_rfl
@[go_sem] theorem ty114_ok : tyok Go.Proofs.Tryd.prog 114 = true := by kernel_rfl
@[go_sem] theorem ty114_z : zeroOf Go.Proofs.Tryd.prog 114 = [C.d (D.v (Value.nilFunc))] := by kernel_rfl
@[go_sem] theorem ty115_kd : kdOf Go.Proofs.Tryd.prog 115 = Kd.fn := by kernel_rfl
@[go_sem] theorem ty115_sz : szOf Go.Proofs.Tryd.prog 115 = 1 := by kernel_rfl
@[go_sem] theorem ty115_by : byOf Go.Proofs.Tryd.prog 115 = 8 := by kernel_rfl
@[go_sem] theorem ty115_ok : tyok Go.Proofs.Tryd.prog 115 = true := by kernel_rfl
@[go_sem] theorem ty115_z : zeroOf Go.Proofs.Tryd.prog 115 = [C.d (D.v (Value.nilFunc))] := by kernel_rfl
@[go_sem] theorem ty116_kd : kdOf Go.Proofs.Tryd.prog 116 = Kd.fn := by kernel_rfl
@[go_sem] theorem ty116_sz : szOf Go.Proofs.Tryd.prog 116 = 1 := by kernel_rfl
@[go_sem] theorem ty116_by : byOf Go.Proofs.Tryd.prog 116 = 8 := by kernel_rfl
@[go_sem] theorem ty116_ok : tyok Go.Proofs.Tryd.prog 116 = true := by kernel_rfl
@[go_sem] theorem ty116_z : zeroOf Go.Proofs.Tryd.prog 116 = [C.d (D.v (Value.nilFunc))] := by kernel_rfl
@[go_sem] theorem ty117_kd : kdOf Go.Proofs.Tryd.prog 117 = Kd.arr 32 5 := by kernel_rfl
@[go_sem] theorem ty117_sz : szOf Go.Proofs.Tryd.prog 117 = 32 := by kernel_rfl
@[go_sem] theorem ty117_by : byOf Go.Proofs.Tryd.prog 117 = 32 := by kernel_rfl
@[go_sem] theorem ty117_ok : tyok Go.Proofs.Tryd.prog 117 = true := by kernel_rfl
@[go_sem] theorem ty117_z : zeroOf Go.Proofs.Tryd.prog 117 = List.replicate 32 (C.d (D.v (Value.int IntKind.u8 0))) := by kernel_rfl
@[go_sem] theorem ty117_b : bldOk Go.Proofs.Tryd.prog 117 = true := by kernel_rfl
@[go_sem] theorem ty118_kd : kdOf Go.Proofs.Tryd.prog 118 = Kd.fn := by kernel_rfl
@[go_sem] theorem ty118_sz : szOf Go.Proofs.Tryd.prog 118 = 1 := by kernel_rfl
@[go_sem] theorem ty118_by : byOf Go.Proofs.Tryd.prog 118 = 8 := by kernel_rfl
@[go_sem] theorem ty118_ok : tyok Go.Proofs.Tryd.prog 118 = true := by kernel_rfl
@[go_sem] theorem ty118_z : zeroOf Go.Proofs.Tryd.prog 118 = [C.d (D.v (Value.nilFunc))] := by kernel_rfl
@[go_sem] theorem ty119_kd : kdOf Go.Proofs.Tryd.prog 119 = Kd.st := by kernel_rfl
@[go_sem] theorem ty119_sz : szOf Go.Proofs.Tryd.prog 119 = 4 := by kernel_rfl
@[go_sem] theorem ty119_by : byOf Go.Proofs.Tryd.prog 119 = 40 := by kernel_rfl
@[go_sem] theorem ty119_ok : tyok Go.Proofs.Tryd.prog 119 = true := by kernel_rfl
@[go_sem] theorem ty119_z : zeroOf Go.Proofs.Tryd.prog 119 = [C.d (D.v (Value.pointer none)), C.d (D.v (Value.pointer none)), C.d (D.v (Value.pointer none)), C.d (D.v (Value.string { data := #[] }))] := by kernel_rfl
@[go_sem] theorem ty119_f0 : fldOf Go.Proofs.Tryd.prog 119 0 = (0, 17) := by kernel_rfl
@[go_sem] theorem ty119_i0 : isFld Go.Proofs.Tryd.prog 119 0 = true := by kernel_rfl
@[go_sem] theorem ty119_f1 : fldOf Go.Proofs.Tryd.prog 119 1 = (1, 17) := by kernel_rfl
@[go_sem] theorem ty119_i1 : isFld Go.Proofs.Tryd.prog 119 1 = true := by kernel_rfl
@[go_sem] theorem ty119_f2 : fldOf Go.Proofs.Tryd.prog 119 2 = (2, 17) := by kernel_rfl
@[go_sem] theorem ty119_i2 : isFld Go.Proofs.Tryd.prog 119 2 = true := by kernel_rfl
@[go_sem] theorem ty119_f3 : fldOf Go.Proofs.Tryd.prog 119 3 = (3, 9) := by kernel_rfl
@[go_sem] theorem ty119_i3 : isFld Go.Proofs.Tryd.prog 119 3 = true := by kernel_rfl
@[go_sem] theorem ty119_b : bldOk Go.Proofs.Tryd.prog 119 = true := by kernel_rfl
@[go_sem] theorem ty120_kd : kdOf Go.Proofs.Tryd.prog 120 = Kd.st := by kernel_rfl
@[go_sem] theorem ty120_sz : szOf Go.Proofs.Tryd.prog 120 = 4 := by kernel_rfl
@[go_sem] theorem ty120_by : byOf Go.Proofs.Tryd.prog 120 = 40 := by kernel_rfl
@[go_sem] theorem ty120_ok : tyok Go.Proofs.Tryd.prog 120 = true := by kernel_rfl
@[go_sem] theorem ty120_z : zeroOf Go.Proofs.Tryd.prog 120 = [C.d (D.v (Value.pointer none)), C.d (D.v (Value.pointer none)), C.d (D.v (Value.pointer none)), C.d (D.v (Value.string { data := #[] }))] := by kernel_rfl
@[go_sem] theorem ty120_f0 : fldOf Go.Proofs.Tryd.prog 120 0 = (0, 17) := by kernel_rfl
@[go_sem] theorem ty120_i0 : isFld Go.Proofs.Tryd.prog 120 0 = true := by kernel_rfl
@[go_sem] theorem ty120_f1 : fldOf Go.Proofs.Tryd.prog 120 1 = (1, 17) := by kernel_rfl
@[go_sem] theorem ty120_i1 : isFld Go.Proofs.Tryd.prog 120 1 = true := by kernel_rfl
@[go_sem] theorem ty120_f2 : fldOf Go.Proofs.Tryd.prog 120 2 = (2, 17) := by kernel_rfl
@[go_sem] theorem ty120_i2 : isFld Go.Proofs.Tryd.prog 120 2 = true := by kernel_rfl
@[go_sem] theorem ty120_f3 : fldOf Go.Proofs.Tryd.prog 120 3 = (3, 9) := by kernel_rfl
@[go_sem] theorem ty120_i3 : isFld Go.Proofs.Tryd.prog 120 3 = true := by kernel_rfl
@[go_sem] theorem ty120_b : bldOk Go.Proofs.Tryd.prog 120 = true := by kernel_rfl
@[go_sem] theorem ty124_kd : kdOf Go.Proofs.Tryd.prog 124 = Kd.fn := by kernel_rfl
@[go_sem] theorem ty124_sz : szOf Go.Proofs.Tryd.prog 124 = 1 := by kernel_rfl
@[go_sem] theorem ty124_by : byOf Go.Proofs.Tryd.prog 124 = 8 := by kernel_rfl
@[go_sem] theorem ty124_ok : tyok Go.Proofs.Tryd.prog 124 = true := by kernel_rfl
@[go_sem] theorem ty124_z : zeroOf Go.Proofs.Tryd.prog 124 = [C.d (D.v (Value.nilFunc))] := by kernel_rfl
@[go_sem] theorem ty125_kd : kdOf Go.Proofs.Tryd.prog 125 = Kd.int IntKind.u8 := by kernel_rfl
@[go_sem] theorem ty125_sz : szOf Go.Proofs.Tryd.prog 125 = 1 := by kernel_rfl
@[go_sem] theorem ty125_by : byOf Go.Proofs.Tryd.prog 125 = 1 := by kernel_rfl
@[go_sem] theorem ty125_ok : tyok Go.Proofs.Tryd.prog 125 = true := by kernel_rfl
@[go_sem] theorem ty125_z : zeroOf Go.Proofs.Tryd.prog 125 = [C.d (D.v (Value.int IntKind.u8 0))] := by kernel_rfl
@[go_sem] theorem ty126_kd : kdOf Go.Proofs.Tryd.prog 126 = Kd.int IntKind.u8 := by kernel_rfl
@[go_sem] theorem ty126_sz : szOf Go.Proofs.Tryd.prog 126 = 1 := by kernel_rfl
@[go_sem] theorem ty126_by : byOf Go.Proofs.Tryd.prog 126 = 1 := by kernel_rfl
@[go_sem] theorem ty126_ok : tyok Go.Proofs.Tryd.prog 126 = true := by kernel_rfl
@[go_sem] theorem ty126_z : zeroOf Go.Proofs.Tryd.prog 126 = [C.d (D.v (Value.int IntKind.u8 0))] := by kernel_rfl
@[go_sem] theorem ty127_kd : kdOf Go.Proofs.Tryd.prog 127 = Kd.fn := by kernel_rfl
@[go_sem] theorem ty127_sz : szOf Go.Proofs.Tryd.prog 127 = 1 := by kernel_rfl
@[go_sem] theorem ty127_by : byOf Go.Proofs.Tryd.prog 127 = 8 := by kernel_rfl
@[go_sem] theorem ty127_ok : tyok Go.Proofs.Tryd.prog 127 = true := by kernel_rfl
@[go_sem] theorem ty127_z : zeroOf Go.Proofs.Tryd.prog 127 = [C.d (D.v (Value.nilFunc))] := by kernel_rfl
@[go_sem] theorem ty128_kd : kdOf Go.Proofs.Tryd.prog 128 = Kd.ptr 5 := by kernel_rfl
@[go_sem] theorem ty128_sz : szOf Go.Proofs.Tryd.prog 128 = 1 := by kernel_rfl
@[go_sem] theorem ty128_by : byOf Go.Proofs.Tryd.prog 128 = 8 := by kernel_rfl
@[go_sem] theorem ty128_ok : tyok Go.Proofs.Tryd.prog 128 = true := by kernel_rfl
@[go_sem] theorem ty128_z : zeroOf Go.Proofs.Tryd.prog 128 = [C.d (D.v (Value.pointer none))] := by kernel_rfl
@[go_sem] theorem ty129_kd : kdOf Go.Proofs.Tryd.prog 129 = Kd.int IntKind.i32 := by kernel_rfl
@[go_sem] theorem ty129_sz : szOf Go.Proofs.Tryd.prog 129 = 1 := by kernel_rfl
@[go_sem] theorem ty129_by : byOf Go.Proofs.Tryd.prog 129 = 4 := by kernel_rfl
@[go_sem] theorem ty129_ok : tyok Go.Proofs.Tryd.prog 129 = true := by kernel_rfl
@[go_sem] theorem ty129_z : zeroOf Go.Proofs.Tryd.prog 129 = [C.d (D.v (Value.int IntKind.i32 0))] := by kernel_rfl
@[go_sem] theorem ty130_kd : kdOf Go.Proofs.Tryd.prog 130 = Kd.int IntKind.i32 := by kernel_rfl
@[go_sem] theorem ty130_sz : szOf Go.Proofs.Tryd.prog 130 = 1 := by kernel_rfl
@[go_sem] theorem ty130_by : byOf Go.Proofs.Tryd.prog 130 = 4 := by kernel_rfl
@[go_sem] theorem ty130_ok : tyok Go.Proofs.Tryd.prog 130 = true := by kernel_rfl
@[go_sem] theorem ty130_z : zeroOf Go.Proofs.Tryd.prog 130 = [C.d (D.v (Value.int IntKind.i32 0))] := by kernel_rfl
@[go_sem] theorem ty131_kd : kdOf Go.Proofs.Tryd.prog 131 = Kd.st := by kernel_rfl
@[go_sem] theorem ty131_sz : szOf Go.Proofs.Tryd.prog 131 = 11 := by kernel_rfl
@[go_sem] theorem ty131_by : byOf Go.Proofs.Tryd.prog 131 = 48 := by kernel_rfl
@[go_sem] theorem ty131_ok : tyok Go.Proofs.Tryd.prog 131 = true := by kernel_rfl
@[go_sem] theorem ty131_z : zeroOf Go.Proofs.Tryd.prog 131 = [C.d (D.v (Value.int IntKind.u64 0)), C.d (D.v (Value.int IntKind.u64 0)), C.d (D.v (Value.int IntKind.u32 0)), C.d (D.v (Value.int IntKind.u8 0)), C.d (D.v (Value.int IntKind.u8 0)), C.d (D.v (Value.int IntKind.u8 0)), C.d (D.v (Value.int IntKind.u8 0)), C.d (D.v (Value.nilFunc)), C.d (D.v (Value.pointer none)), C.d (D.v (Value.int IntKind.i32 0)), C.d (D.v (Value.int IntKind.i32 0))] := by kernel_rfl
@[go_sem] theorem ty131_f0 : fldOf Go.Proofs.Tryd.prog 131 0 = (0, 12) := by kernel_rfl
@[go_sem] theorem ty131_i0 : isFld Go.Proofs.Tryd.prog 131 0 = true := by kernel_rfl
@[go_sem] theorem ty131_f1 : fldOf Go.Proofs.Tryd.prog 131 1 = (1, 12) := by kernel_rfl
@[go_sem] theorem ty131_i1 : isFld Go.Proofs.Tryd.prog 131 1 = true := by kernel_rfl
@[go_sem] theorem ty131_f2 : fldOf Go.Proofs.Tryd.prog 131 2 = (2, 112) := by kernel_rfl
@[go_sem] theorem ty131_i2 : isFld Go.Proofs.Tryd.prog 131 2 = true := by kernel_rfl
@[go_sem] theorem ty131_f3 : fldOf Go.Proofs.Tryd.prog 131 3 = (3, 125) := by kernel_rfl
@[go_sem] theorem ty131_i3 : isFld Go.Proofs.Tryd.prog 131 3 = true := by kernel_rfl
@[go_sem] theorem ty131_f4 : fldOf Go.Proofs.Tryd.prog 131 4 = (4, 5) := by kernel_rfl
@[go_sem] theorem ty131_i4 : isFld Go.Proofs.Tryd.prog 131 4 = true := by kernel_rfl
@[go_sem] theorem ty131_f5 : fldOf Go.Proofs.Tryd.prog 131 5 = (5, 5) := by kernel_rfl
@[go_sem] theorem ty131_i5 : isFld Go.Proofs.Tryd.prog 131 5 = true := by kernel_rfl
@[go_sem] theorem ty131_f6 : fldOf Go.Proofs.Tryd.prog 131 6 = (6, 126) := by kernel_rfl
@[go_sem] theorem ty131_i6 : isFld Go.Proofs.Tryd.prog 131 6 = true := by kernel_rfl
@[go_sem] theorem ty131_f7 : fldOf Go.Proofs.Tryd.prog 131 7 = (7, 127) := by kernel_rfl
@[go_sem] theorem ty131_i7 : isFld Go.Proofs.Tryd.prog 131 7 = true := by kernel_rfl
@[go_sem] theorem ty131_f8 : fldOf Go.Proofs.Tryd.prog 131 8 = (8, 128) := by kernel_rfl
@[go_sem] theorem ty131_i8 : isFld Go.Proofs.Tryd.prog 131 8 = true := by kernel_rfl
@[go_sem] theorem ty131_f9 : fldOf Go.Proofs.Tryd.prog 131 9 = (9, 129) := by kernel_rfl
@[go_sem] theorem ty131_i9 : isFld Go.Proofs.Tryd.prog 131 9 = true := by kernel_rfl
@[go_sem] theorem ty131_f10 : fldOf Go.Proofs.Tryd.prog 131 10 = (10, 130) := by kernel_rfl
@[go_sem] theorem ty131_i10 : isFld Go.Proofs.Tryd.prog 131 10 = true := by kernel_rfl
@[go_sem] theorem ty131_b : bldOk Go.Proofs.Tryd.prog 131 = true := by kernel_rfl
@[go_sem] theorem ty132_kd : kdOf Go.Proofs.Tryd.prog 132 = Kd.st := by kernel_rfl
@[go_sem] theorem ty132_sz : szOf Go.Proofs.Tryd.prog 132 = 11 := by kernel_rfl
@[go_sem] theorem ty132_by : byOf Go.Proofs.Tryd.prog 132 = 48 := by kernel_rfl
@[go_sem] theorem ty132_ok : tyok Go.Proofs.Tryd.prog 132 = true := by kernel_rfl
@[go_sem] theorem ty132_z : zeroOf Go.Proofs.Tryd.prog 132 = [C.d (D.v (Value.int IntKind.u64 0)), C.d (D.v (Value.int IntKind.u64 0)), C.d (D.v (Value.int IntKind.u32 0)), C.d (D.v (Value.int IntKind.u8 0)), C.d (D.v (Value.int IntKind.u8 0)), C.d (D.v (Value.int IntKind.u8 0)), C.d (D.v (Value.int IntKind.u8 0)), C.d (D.v (Value.nilFunc)), C.d (D.v (Value.pointer none)), C.d (D.v (Value.int IntKind.i32 0)), C.d (D.v (Value.int IntKind.i32 0))] := by kernel_rfl
@[go_sem] theorem ty132_f0 : fldOf Go.Proofs.Tryd.prog 132 0 = (0, 12) := by kernel_rfl
@[go_sem] theorem ty132_i0 : isFld Go.Proofs.Tryd.prog 132 0 = true := by kernel_rfl
@[go_sem] theorem ty132_f1 : fldOf Go.Proofs.Tryd.prog 132 1 = (1, 12) := by kernel_rfl
@[go_sem] theorem ty132_i1 : isFld Go.Proofs.Tryd.prog 132 1 = true := by kernel_rfl
@[go_sem] theorem ty132_f2 : fldOf Go.Proofs.Tryd.prog 132 2 = (2, 112) := by kernel_rfl
@[go_sem] theorem ty132_i2 : isFld Go.Proofs.Tryd.prog 132 2 = true := by kernel_rfl
@[go_sem] theorem ty132_f3 : fldOf Go.Proofs.Tryd.prog 132 3 = (3, 125) := by kernel_rfl
@[go_sem] theorem ty132_i3 : isFld Go.Proofs.Tryd.prog 132 3 = true := by kernel_rfl
@[go_sem] theorem ty132_f4 : fldOf Go.Proofs.Tryd.prog 132 4 = (4, 5) := by kernel_rfl
@[go_sem] theorem ty132_i4 : isFld Go.Proofs.Tryd.prog 132 4 = true := by kernel_rfl
@[go_sem] theorem ty132_f5 : fldOf Go.Proofs.Tryd.prog 132 5 = (5, 5) := by kernel_rfl
@[go_sem] theorem ty132_i5 : isFld Go.Proofs.Tryd.prog 132 5 = true := by kernel_rfl
@[go_sem] theorem ty132_f6 : fldOf Go.Proofs.Tryd.prog 132 6 = (6, 126) := by kernel_rfl
@[go_sem] theorem ty132_i6 : isFld Go.Proofs.Tryd.prog 132 6 = true := by kernel_rfl
@[go_sem] theorem ty132_f7 : fldOf Go.Proofs.Tryd.prog 132 7 = (7, 127) := by kernel_rfl
@[go_sem] theorem ty132_i7 : isFld Go.Proofs.Tryd.prog 132 7 = true := by kernel_rfl
@[go_sem] theorem ty132_f8 : fldOf Go.Proofs.Tryd.prog 132 8 = (8, 128) := by kernel_rfl
@[go_sem] theorem ty132_i8 : isFld Go.Proofs.Tryd.prog 132 8 = true := by kernel_rfl
@[go_sem] theorem ty132_f9 : fldOf Go.Proofs.Tryd.prog 132 9 = (9, 129) := by kernel_rfl
@[go_sem] theorem ty132_i9 : isFld Go.Proofs.Tryd.prog 132 9 = true := by kernel_rfl
@[go_sem] theorem ty132_f10 : fldOf Go.Proofs.Tryd.prog 132 10 = (10, 130) := by kernel_rfl
@[go_sem] theorem ty132_i10 : isFld Go.Proofs.Tryd.prog 132 10 = true := by kernel_rfl
@[go_sem] theorem ty132_b : bldOk Go.Proofs.Tryd.prog 132 = true := by kernel_rfl
@[go_sem] theorem ty133_sz : szOf Go.Proofs.Tryd.prog 133 = 1 := by kernel_rfl
@[go_sem] theorem ty133_by : byOf Go.Proofs.Tryd.prog 133 = 8 := by kernel_rfl
@[go_sem] theorem ty133_ok : tyok Go.Proofs.Tryd.prog 133 = true := by kernel_rfl
@[go_sem] theorem ty133_z : zeroOf Go.Proofs.Tryd.prog 133 = [C.d (D.v (Value.pointer none))] := by kernel_rfl
@[go_sem] theorem fn2_ok : funcOk Go.Proofs.Tryd.prog 2 = true := by kernel_rfl
@[go_sem] theorem fn3_ok : funcOk Go.Proofs.Tryd.prog 3 = true := by kernel_rfl
@[go_sem] theorem fn4_ok : funcOk Go.Proofs.Tryd.prog 4 = true := by kernel_rfl
@[go_sem] theorem fn5_ok : funcOk Go.Proofs.Tryd.prog 5 = true := by kernel_rfl
@[go_sem] theorem fn6_ok : funcOk Go.Proofs.Tryd.prog 6 = true := by kernel_rfl
@[go_sem] theorem fn7_ok : funcOk Go.Proofs.Tryd.prog 7 = true := by kernel_rfl
@[go_sem] theorem fn8_ok : funcOk Go.Proofs.Tryd.prog 8 = true := by kernel_rfl
@[go_sem] theorem fn9_ok : funcOk Go.Proofs.Tryd.prog 9 = true := by kernel_rfl
@[go_sem] theorem fn10_ok : funcOk Go.Proofs.Tryd.prog 10 = true := by kernel_rfl
@[go_sem] theorem fn11_ok : funcOk Go.Proofs.Tryd.prog 11 = true := by kernel_rfl
@[go_sem] theorem fn12_ok : funcOk Go.Proofs.Tryd.prog 12 = true := by kernel_rfl
@[go_sem] theorem fn13_ok : funcOk Go.Proofs.Tryd.prog 13 = true := by kernel_rfl
@[go_sem] theorem fn14_ok : funcOk Go.Proofs.Tryd.prog 14 = true := by kernel_rfl
@[go_sem] theorem fn15_ok : funcOk Go.Proofs.Tryd.prog 15 = true := by kernel_rfl
@[go_sem] theorem fn16_ok : funcOk Go.Proofs.Tryd.prog 16 = true := by kernel_rfl
@[go_sem] theorem fn17_ok : funcOk Go.Proofs.Tryd.prog 17 = true := by kernel_rfl
@[go_sem] theorem fn18_ok : funcOk Go.Proofs.Tryd.prog 18 = true := by kernel_rfl
@[go_sem] theorem fn19_ok : funcOk Go.Proofs.Tryd.prog 19 = true := by kernel_rfl
@[go_sem] theorem fn20_ok : funcOk Go.Proofs.Tryd.prog 20 = true := by kernel_rfl
@[go_sem] theorem fn21_ok : funcOk Go.Proofs.Tryd.prog 21 = true := by kernel_rfl
@[go_sem] theorem fn22_ok : funcOk Go.Proofs.Tryd.prog 22 = true := by kernel_rfl
@[go_sem] theorem fn23_ok : funcOk Go.Proofs.Tryd.prog 23 = true := by kernel_rfl
@[go_sem] theorem fn24_ok : funcOk Go.Proofs.Tryd.prog 24 = true := by kernel_rfl
@[go_sem] theorem fn25_ok : funcOk Go.Proofs.Tryd.prog 25 = true := by kernel_rfl
@[go_sem] theorem fn26_ok : funcOk Go.Proofs.Tryd.prog 26 = true := by kernel_rfl
@[go_sem] theorem fn27_ok : funcOk Go.Proofs.Tryd.prog 27 = true := by kernel_rfl
@[go_sem] theorem fn28_ok : funcOk Go.Proofs.Tryd.prog 28 = true := by kernel_rfl
@[go_sem] theorem fn29_ok : funcOk Go.Proofs.Tryd.prog 29 = true := by kernel_rfl
@[go_sem] theorem fn30_ok : funcOk Go.Proofs.Tryd.prog 30 = true := by kernel_rfl
@[go_sem] theorem fn31_ok : funcOk Go.Proofs.Tryd.prog 31 = true := by kernel_rfl
@[go_sem] theorem fn32_ok : funcOk Go.Proofs.Tryd.prog 32 = true := by kernel_rfl
@[go_sem] theorem fn33_ok : funcOk Go.Proofs.Tryd.prog 33 = true := by kernel_rfl
@[go_sem] theorem fn34_ok : funcOk Go.Proofs.Tryd.prog 34 = true := by kernel_rfl
@[go_sem] theorem fn35_ok : funcOk Go.Proofs.Tryd.prog 35 = true := by kernel_rfl
@[go_sem] theorem fn36_ok : funcOk Go.Proofs.Tryd.prog 36 = true := by kernel_rfl
@[go_sem] theorem fn37_ok : funcOk Go.Proofs.Tryd.prog 37 = true := by kernel_rfl
@[go_sem] theorem fn38_ok : funcOk Go.Proofs.Tryd.prog 38 = true := by kernel_rfl
@[go_sem] theorem fn39_ok : funcOk Go.Proofs.Tryd.prog 39 = true := by kernel_rfl
@[go_sem] theorem fn40_ok : funcOk Go.Proofs.Tryd.prog 40 = true := by kernel_rfl
@[go_sem] theorem fn41_ok : funcOk Go.Proofs.Tryd.prog 41 = true := by kernel_rfl
@[go_sem] theorem fn42_ok : funcOk Go.Proofs.Tryd.prog 42 = true := by kernel_rfl
@[go_sem] theorem fn43_ok : funcOk Go.Proofs.Tryd.prog 43 = true := by kernel_rfl
@[go_sem] theorem fn44_ok : funcOk Go.Proofs.Tryd.prog 44 = true := by kernel_rfl
@[go_sem] theorem fn45_ok : funcOk Go.Proofs.Tryd.prog 45 = true := by kernel_rfl
@[go_sem] theorem fn46_ok : funcOk Go.Proofs.Tryd.prog 46 = true := by kernel_rfl
@[go_sem] theorem fn47_ok : funcOk Go.Proofs.Tryd.prog 47 = true := by kernel_rfl
@[go_sem] theorem fn48_ok : funcOk Go.Proofs.Tryd.prog 48 = true := by kernel_rfl
@[go_sem] theorem fn49_ok : funcOk Go.Proofs.Tryd.prog 49 = true := by kernel_rfl
@[go_sem] theorem fn50_ok : funcOk Go.Proofs.Tryd.prog 50 = true := by kernel_rfl
@[go_sem] theorem fn51_ok : funcOk Go.Proofs.Tryd.prog 51 = true := by kernel_rfl
@[go_sem] theorem fn52_ok : funcOk Go.Proofs.Tryd.prog 52 = true := by kernel_rfl
@[go_sem] theorem fn53_ok : funcOk Go.Proofs.Tryd.prog 53 = true := by kernel_rfl
@[go_sem] theorem fn54_ok : funcOk Go.Proofs.Tryd.prog 54 = true := by kernel_rfl
@[go_sem] theorem fn55_ok : funcOk Go.Proofs.Tryd.prog 55 = true := by kernel_rfl
@[go_sem] theorem fn56_ok : funcOk Go.Proofs.Tryd.prog 56 = true := by kernel_rfl
@[go_sem] theorem fn57_ok : funcOk Go.Proofs.Tryd.prog 57 = true := by kernel_rfl
@[go_sem] theorem fn58_ok : funcOk Go.Proofs.Tryd.prog 58 = true := by kernel_rfl
@[go_sem] theorem fn59_ok : funcOk Go.Proofs.Tryd.prog 59 = true := by kernel_rfl
@[go_sem] theorem fn60_ok : funcOk Go.Proofs.Tryd.prog 60 = true := by kernel_rfl
@[go_sem] theorem fn61_ok : funcOk Go.Proofs.Tryd.prog 61 = true := by kernel_rfl
@[go_sem] theorem fn62_ok : funcOk Go.Proofs.Tryd.prog 62 = true := by kernel_rfl
@[go_sem] theorem fn63_ok : funcOk Go.Proofs.Tryd.prog 63 = true := by kernel_rfl
@[go_sem] theorem fn64_ok : funcOk Go.Proofs.Tryd.prog 64 = true := by kernel_rfl
@[go_sem] theorem fn65_ok : funcOk Go.Proofs.Tryd.prog 65 = true := by kernel_rfl
@[go_sem] theorem fn66_ok : funcOk Go.Proofs.Tryd.prog 66 = true := by kernel_rfl
@[go_sem] theorem fn67_ok : funcOk Go.Proofs.Tryd.prog 67 = true := by kernel_rfl
@[go_sem] theorem fn68_ok : funcOk Go.Proofs.Tryd.prog 68 = true := by kernel_rfl
@[go_sem] theorem fn69_ok : funcOk Go.Proofs.Tryd.prog 69 = true := by kernel_rfl
@[go_sem] theorem fn70_ok : funcOk Go.Proofs.Tryd.prog 70 = true := by kernel_rfl
@[go_sem] theorem fn71_ok : funcOk Go.Proofs.Tryd.prog 71 = true := by kernel_rfl
@[go_sem] theorem fn72_ok : funcOk Go.Proofs.Tryd.prog 72 = true := by kernel_rfl
@[go_sem] theorem fn73_ok : funcOk Go.Proofs.Tryd.prog 73 = true := by kernel_rfl
@[go_sem] theorem fn74_ok : funcOk Go.Proofs.Tryd.prog 74 = true := by kernel_rfl
@[go_sem] theorem fn75_ok : funcOk Go.Proofs.Tryd.prog 75 = true := by kernel_rfl
@[go_sem] theorem fn76_ok : funcOk Go.Proofs.Tryd.prog 76 = true := by kernel_rfl
@[go_sem] theorem fn77_ok : funcOk Go.Proofs.Tryd.prog 77 = true := by kernel_rfl
@[go_sem] theorem fn78_ok : funcOk Go.Proofs.Tryd.prog 78 = true := by kernel_rfl
@[go_sem] theorem fn79_ok : funcOk Go.Proofs.Tryd.prog 79 = true := by kernel_rfl
@[go_sem] theorem fn81_ok : funcOk Go.Proofs.Tryd.prog 81 = true := by kernel_rfl
@[go_sem] theorem fn82_ok : funcOk Go.Proofs.Tryd.prog 82 = true := by kernel_rfl
@[go_sem] theorem fn83_ok : funcOk Go.Proofs.Tryd.prog 83 = true := by kernel_rfl
@[go_sem] theorem fn84_ok : funcOk Go.Proofs.Tryd.prog 84 = true := by kernel_rfl
@[go_sem] theorem fn85_ok : funcOk Go.Proofs.Tryd.prog 85 = true := by kernel_rfl
@[go_sem] theorem fn86_ok : funcOk Go.Proofs.Tryd.prog 86 = true := by kernel_rfl
@[go_sem] theorem fn87_ok : funcOk Go.Proofs.Tryd.prog 87 = true := by kernel_rfl
@[go_sem] theorem fn88_ok : funcOk Go.Proofs.Tryd.prog 88 = true := by kernel_rfl
@[go_sem] theorem fn89_ok : funcOk Go.Proofs.Tryd.prog 89 = true := by kernel_rfl
@[go_sem] theorem fn90_ok : funcOk Go.Proofs.Tryd.prog 90 = true := by kernel_rfl
@[go_sem] theorem fn91_ok : funcOk Go.Proofs.Tryd.prog 91 = true := by kernel_rfl
@[go_sem] theorem fn114_ok : funcOk Go.Proofs.Tryd.prog 114 = true := by kernel_rfl
end Go.Proofs.YtdakeodebgggfaaDoor

/- A machine of values, 18: states that say less, their objects renamed; a nil slice that grows; slots turned to data. -/
namespace Go.Proofs.YtdakeodebgggfaaDoor
open Go.RowKit
set_option linter.unusedVariables false
set_option linter.unusedSimpArgs false

section
variable {G : Nat → Option (List D)} {P : Program} {K : Ctx G} {F : Fr} {Q : Exit → FSt → Prop} {s : FSt} {m : NM} {a : Act} {w : World}
def NM.via (m : NM) (ρ : Nat → Nat) : NM := ⟨fun r => m.g (ρ r), fun r => m.N (ρ r), fun r => m.vd (ρ r)⟩
theorem RC.via {S : Nat → Prop} {dom dom' : Nat → Prop} {ρ : Nat → Nat} {x : C} {u : Value} (h : RC w S m dom (x.ren ρ) u) (hn : ∀ r ∈ x.names, dom' r) : RC w S (m.via ρ) dom' x u := by
  cases x with
  | d x => exact h
  | nil => exact h
  | ptr r off => exact ⟨hn r (by simp [C.names]), h.2⟩
  | row r sz off n cap => exact ⟨hn r (by simp [C.names]), h.2⟩
  | fn f caps =>
    refine ⟨?_, fun p hp => ⟨hn _ (by simp only [C.names]; exact List.mem_map_of_mem hp), (h.2 (ρ p.1, p.2) (List.mem_map_of_mem (f := fun p : Nat × Nat => (ρ p.1, p.2)) hp)).2⟩⟩
    rw [h.1]
    simp [NM.via, Function.comp_def]
theorem RA.via {S : Nat → Prop} {dom dom' : Nat → Prop} {ρ : Nat → Nat} {x : AV} {u : Value} (h : RA w S m dom (x.ren ρ) u) (hn : ∀ r ∈ x.names, dom' r) : RA w S (m.via ρ) dom' x u := by
  cases x with
  | c x => exact RC.via h hn
  | agg cs =>
    obtain ⟨us, e, hl, h⟩ := h
    refine ⟨us, e, by simpa using hl, fun i x v hx hv => RC.via (h i (x.ren ρ) v ?_ hv) fun r hr => hn r (by simp only [AV.names]; exact List.mem_flatMap.2 ⟨x, List.mem_of_getElem? hx, hr⟩)⟩
    simp [hx]
theorem RS.via {S : Nat → Prop} {dom dom' : Nat → Prop} {ρ : Nat → Nat} {x : SV} {u : Value} (h : RS w S m dom (x.ren ρ) u) (hn : ∀ r ∈ x.names, dom' r) : RS w S (m.via ρ) dom' x u := by
  cases x with
  | bot => trivial
  | undef => exact h
  | a x => exact RA.via h hn
  | tup l =>
    obtain ⟨us, e, hl, h⟩ := h
    refine ⟨us, e, by simpa using hl, fun i x v hx hv => RA.via (h i (x.ren ρ) v ?_ hv) fun r hr => hn r (by simp only [SV.names]; exact List.mem_flatMap.2 ⟨x, List.mem_of_getElem? hx, hr⟩)⟩
    simp [hx]
def objRen (ρ : Nat → Nat) (o : Option AObj) : Option AObj := o.map fun o => ⟨o.ty, o.cs.map (C.ren ρ), o.ex, o.fr⟩
structure LessR (ρ : Nat → Nat) (S : LSt) (s : FSt) (d0 : Nat → Prop) : Prop where
  sl : ∀ p ∈ S.sl, s.sl p.1 = p.2.ren ρ
  ob : ∀ p ∈ S.ob, s.ob (ρ p.1) = some (objRen ρ p.2)
  inj : (S.ob.map fun p => ρ p.1).Nodup
  sn : ∀ p ∈ S.sl, ∀ r ∈ p.2.names, lkO S.ob r ≠ none
  on : ∀ p ∈ S.ob, ∀ r ∈ objNames p.2, lkO S.ob r ≠ none
  d0 : ∀ r, d0 r → lkO S.ob r ≠ none ∧ ρ r = r
theorem nodup_map_inj {α β : Type} {f : α → β} : ∀ {l : List α}, (l.map f).Nodup → ∀ x ∈ l, ∀ y ∈ l, f x = f y → x = y
  | [], _, _, hx, _, _ => by cases hx
  | z :: l, h, x, hx, y, hy => by
    rw [List.map_cons, List.nodup_cons] at h
    intro e
    rcases List.mem_cons.1 hx with rfl | hx' <;> rcases List.mem_cons.1 hy with rfl | hy'
    · rfl
    · exact absurd (e ▸ List.mem_map_of_mem hy') h.1
    · exact absurd (e ▸ List.mem_map_of_mem hx') h.1
    · exact nodup_map_inj h.2 x hx' y hy' e
theorem Rel.lessR {ρ : Nat → Nat} {S : LSt} (h : Rel K F m s a w) (l : LessR ρ S s F.d0) : Rel K F (m.via ρ) S.st a w := by
  have hob : ∀ r o, lkO S.ob r = some o → s.ob (ρ r) = some (objRen ρ o) := fun r o ho => l.ob _ (lkO_mem ho)
  have how : ∀ r, S.st.ob.own r → s.ob.own (ρ r) := fun r ⟨o, h1, h2⟩ => ⟨_, hob _ _ h1, h2⟩
  have hv : ∀ b, Vis K m s.ob w b → Vis K (m.via ρ) S.st.ob w b := fun b hb => ⟨hb.1, hb.2.1, fun r hr => hb.2.2 _ (how r hr)⟩
  have hin : ∀ r r', S.st.ob.own r → S.st.ob.own r' → ρ r = ρ r' → r = r' := fun r r' ⟨o, h1, _⟩ ⟨o', h1', _⟩ e => by
    have := nodup_map_inj l.inj _ (lkO_mem h1) _ (lkO_mem h1') e
    injection this
  refine ⟨h.size, h.defers, fun t => ?_, ⟨fun r o ho => ?_, fun r r' hr hr' hvr hvr' e => hin r r' hr hr' (h.heap.dist _ _ (how r hr) (how r' hr') hvr hvr' e), fun r hr hvr => h.heap.loc _ (how r hr) hvr,
    fun r o ho hf hvd => hv _ (h.heap.fz _ _ (hob _ _ ho) hf hvd), h.heap.ev, fun g cs hg => (h.heap.glob g cs hg).mono hv (fun _ _ => rfl)⟩, fun r hr => ⟨(l.d0 r hr).1, ?_⟩⟩
  · rcases lkS_mem (l := S.sl) (t := t) with e | e
    · show RS w _ _ _ (lkS S.sl t) _
      rw [e]
      trivial
    · have h1 := h.slot t
      rw [l.sl _ e] at h1
      exact (Keep.more hv).rs (RS.via h1 (l.sn _ e))
  · have h0 := lkO_mem ho
    refine ⟨?_⟩
    rcases (h.heap.obj _ _ (hob _ _ ho)).row with ⟨h1, h2, h3⟩ | ⟨hvd, arr, h1, h2, h3, h4, h5⟩
    · exact .inl ⟨h1, by simpa using h2, h3⟩
    · refine .inr ⟨hvd, arr, h1, h2, fun he => by simpa using h3 he, by simpa using h4, fun i x hx => ?_⟩
      obtain ⟨u, hu, hr⟩ := h5 i (x.ren ρ) (by simp [hx])
      exact ⟨u, hu, (Keep.more hv).rc (RC.via hr fun r hr => l.on _ h0 r (by simp only [objNames]; exact List.mem_flatMap.2 ⟨x, List.mem_of_getElem? hx, hr⟩))⟩
  · have h1 := (h.names r hr).2
    have h2 := (l.d0 r hr).2
    exact ⟨by show m.g (ρ r) = _; rw [h2]; exact h1.1, by show m.N (ρ r) = _; rw [h2]; exact h1.2.1, by show m.vd (ρ r) = _; rw [h2]; exact h1.2.2⟩

/-! listed -/
def renK : List (Nat × Nat) → Nat → Nat
  | [], r => r
  | (a, b) :: l, r => if r = a then b else renK l r
def eqS (ρ : Nat → Nat) (f : Nat → SV) : List (Nat × SV) → Prop
  | [] => True
  | (k, v) :: l => f k = v.ren ρ ∧ eqS ρ f l
def eqO (ρ : Nat → Nat) (H : Hp) : List (Nat × Option AObj) → Prop
  | [] => True
  | (k, v) :: l => H (ρ k) = some (objRen ρ v) ∧ eqO ρ H l
def nmR (ob : List (Nat × Option AObj)) (r : Nat) : Bool := (lkO ob r).isSome
def nmC (ob : List (Nat × Option AObj)) (x : C) : Prop := ∀ r ∈ x.names, nmR ob r = true
def nmL (ob : List (Nat × Option AObj)) (l : List C) : Prop := ∀ x ∈ l, nmC ob x
def nmA (ob : List (Nat × Option AObj)) : AV → Prop
  | .c x => nmC ob x
  | .agg l => nmL ob l
def nmT (ob : List (Nat × Option AObj)) : List AV → Prop
  | [] => True
  | x :: l => nmA ob x ∧ nmT ob l
def nmS (ob : List (Nat × Option AObj)) : List (Nat × SV) → Prop
  | [] => True
  | (_, .a x) :: l => nmA ob x ∧ nmS ob l
  | (_, .tup x) :: l => nmT ob x ∧ nmS ob l
  | (_, _) :: l => nmS ob l
def nmO (ob : List (Nat × Option AObj)) : List (Nat × Option AObj) → Prop
  | [] => True
  | (_, some o) :: l => nmL ob o.cs ∧ nmO ob l
  | (_, none) :: l => nmO ob l
theorem nmR_ne {ob : List (Nat × Option AObj)} {r : Nat} (h : nmR ob r = true) : lkO ob r ≠ none := by
  intro e
  rw [nmR, e] at h
  cases h
theorem nmA_ok {ob : List (Nat × Option AObj)} : ∀ {x : AV}, nmA ob x → ∀ r ∈ x.names, lkO ob r ≠ none
  | .c x, h => fun r hr => nmR_ne (h r hr)
  | .agg l, h => fun r hr => by
    obtain ⟨x, hx, hr⟩ := List.mem_flatMap.1 hr
    exact nmR_ne (h x hx r hr)
theorem nmT_ok {ob : List (Nat × Option AObj)} : ∀ {l : List AV}, nmT ob l → ∀ r ∈ l.flatMap AV.names, lkO ob r ≠ none
  | [], h => fun r hr => by cases hr
  | x :: l, h => fun r hr => by
    rw [List.flatMap_cons] at hr
    exact (List.mem_append.1 hr).elim (nmA_ok h.1 r) (nmT_ok h.2 r)
theorem nmS_ok {ob : List (Nat × Option AObj)} : ∀ {l : List (Nat × SV)}, nmS ob l → ∀ p ∈ l, ∀ r ∈ p.2.names, lkO ob r ≠ none
  | [], _, _, hp => by cases hp
  | (k, v) :: l, h, p, hp => by
    rcases List.mem_cons.1 hp with rfl | hp'
    · cases v with
      | bot => intro r hr; cases hr
      | undef => intro r hr; cases hr
      | a x => exact nmA_ok h.1
      | tup x => exact nmT_ok h.1
    · cases v with
      | bot => exact nmS_ok (l := l) h p hp'
      | undef => exact nmS_ok (l := l) h p hp'
      | a x => exact nmS_ok h.2 p hp'
      | tup x => exact nmS_ok h.2 p hp'
theorem nmO_ok {ob : List (Nat × Option AObj)} : ∀ {l : List (Nat × Option AObj)}, nmO ob l → ∀ p ∈ l, ∀ r ∈ objNames p.2, lkO ob r ≠ none
  | [], _, _, hp => by cases hp
  | (k, v) :: l, h, p, hp => by
    rcases List.mem_cons.1 hp with rfl | hp'
    · cases v with
      | none => intro r hr; cases hr
      | some o => exact fun r hr => by
                    obtain ⟨x, hx, hr⟩ := List.mem_flatMap.1 hr
                    exact nmR_ne (h.1 x hx r hr)
    · cases v with
      | none => exact nmO_ok (l := l) h p hp'
      | some o => exact nmO_ok h.2 p hp'
def d0Ok (ρ : Nat → Nat) (F : Fr) (ob : List (Nat × Option AObj)) : Prop := ∀ r, F.d0 r → nmR ob r = true ∧ ρ r = r
/-- A state says less: listed. -/
def LessL (ρ : Nat → Nat) (S : LSt) (F : Fr) (s : FSt) : Prop :=
  eqS ρ s.sl S.sl ∧ eqO ρ s.ob S.ob ∧ (S.ob.map fun p => ρ p.1).Nodup ∧ nmS S.ob S.sl ∧ nmO S.ob S.ob ∧ d0Ok ρ F S.ob
theorem eqS_ok {ρ : Nat → Nat} {f : Nat → SV} : ∀ {l : List (Nat × SV)}, eqS ρ f l → ∀ p ∈ l, f p.1 = p.2.ren ρ
  | [], _, _, hp => by cases hp
  | (k, v) :: l, h, p, hp => by
    rcases List.mem_cons.1 hp with rfl | hp
    · exact h.1
    · exact eqS_ok h.2 p hp
theorem eqO_ok {ρ : Nat → Nat} {H : Hp} : ∀ {l : List (Nat × Option AObj)}, eqO ρ H l → ∀ p ∈ l, H (ρ p.1) = some (objRen ρ p.2)
  | [], _, _, hp => by cases hp
  | (k, v) :: l, h, p, hp => by
    rcases List.mem_cons.1 hp with rfl | hp
    · exact h.1
    · exact eqO_ok h.2 p hp
theorem lessL_ok {ρ : Nat → Nat} {S : LSt} (h : LessL ρ S F s) : LessR ρ S s F.d0 :=
  ⟨eqS_ok h.1, eqO_ok h.2.1, h.2.2.1, nmS_ok h.2.2.2.1, nmO_ok h.2.2.2.2.1, fun r hr => ⟨nmR_ne (h.2.2.2.2.2 r hr).1, (h.2.2.2.2.2 r hr).2⟩⟩
theorem sound_lessR {c : Code} (S : LSt) (l : List (Nat × Nat)) (hl : LessL (renK l) S F s) (h : Sound P K F c Q S.st) : Sound P K F c Q s := fun m a w hr => h _ a w (hr.lessR (lessL_ok hl))
theorem sound_loopR {c : Code} {X : Type} (S : X → LSt) (μ : X → Nat) (x0 : X) (l : List (Nat × Nat)) (h0 : LessL (renK l) (S x0) F s)
    (h : ∀ x, Sound P K F c (Then (fun s' => ∃ l x', LessL (renK l) (S x') F s' ∧ μ x' < μ x) Q) (S x).st) : Sound P K F (.loop c) Q s := fun m a w hr => by
  refine wp_loop_relR x0 (hr.lessR (lessL_ok h0)) h
where
  wp_loop_relR {c : Code} {X : Type} {S : X → LSt} {μ : X → Nat} {m : NM} {a : Act} {w : World} (x0 : X) (h0 : Rel K F m (S x0).st a w)
      (h : ∀ x, Sound P K F c (Then (fun s' => ∃ l x', LessL (renK l) (S x') F s' ∧ μ x' < μ x) Q) (S x).st) : (Code.loop c).wp P (Lift K F Q) a w := by
    intro b k cs
    have key : ∀ n x m a w, μ x = n → Rel K F m (S x).st a w → ∃ e a' w', Lift K F Q e a' w' ∧ Arrives P (lone (b.at a (.code c :: .inLoop c :: k)) cs w) b k cs e a' w' := by
      intro n
      induction n using Nat.strongRecOn with
      | _ n ih =>
        intro x m a w hn hr
        obtain ⟨e, a₁, w₁, ⟨m₁, s₁, hr₁, hq⟩, harr⟩ := h x m a w hr b (.inLoop c :: k) cs
        cases e with
        | normal =>
          obtain ⟨l, x', hl, hlt⟩ := hq
          obtain ⟨e₂, a₂, w₂, hq₂, harr₂⟩ := ih (μ x') (hn ▸ hlt) x' _ a₁ w₁ rfl (hr₁.lessR (lessL_ok hl))
          exact ⟨e₂, a₂, w₂, hq₂, .of_steps (Steps.trans harr (.one step_inLoop)) harr₂⟩
        | exit id => exact ⟨_, a₁, w₁, ⟨m₁, s₁, hr₁, hq⟩, .pass (x := .inLoop c) rfl (fun _ _ => .inl (by simp)) harr⟩
        | goto l => exact ⟨_, a₁, w₁, ⟨m₁, s₁, hr₁, hq⟩, .pass (x := .inLoop c) rfl (fun _ _ => .inl (by simp)) harr⟩
        | ret => exact ⟨_, a₁, w₁, ⟨m₁, s₁, hr₁, hq⟩, .pass (x := .inLoop c) rfl (fun _ _ => .inl (by simp)) harr⟩
        | panic ch => exact ⟨_, a₁, w₁, ⟨m₁, s₁, hr₁, hq⟩, .pass (x := .inLoop c) rfl (fun _ _ => .inl (by simp)) harr⟩
        | outgrown => exact ⟨_, a₁, w₁, ⟨m₁, s₁, hr₁, hq⟩, .pass (x := .inLoop c) rfl (fun _ _ => .inl (by simp)) harr⟩
    obtain ⟨e, a', w', hq, harr⟩ := key _ x0 m a w rfl h0
    exact ⟨e, a', w', hq, .of_steps (.one step_loop) harr⟩

/-! a nil slice that grows -/
theorem Rel.reslot {t : Nat} {v : SV} (h : Rel K F m s a w) (hv : RS w (Vis K m s.ob w) m s.ob.dom v (a.tmps.getD t undef)) : Rel K F m ⟨upd s.sl t v, s.ob⟩ a w :=
  ⟨h.size, h.defers, fun t' => by
    show RS w _ _ _ (upd s.sl t v t') _
    unfold upd
    split
    · rename_i e
      rw [e]
      exact hv
    · exact h.slot t', h.heap, h.names⟩
def voidO (e : TypeId) : Option (Option AObj) := some (some ⟨e, [], false, false⟩)
theorem Rel.void {R : Nat} {e : TypeId} (h : Rel K F m s a w) (hf : s.ob R = none) : Rel K F (m.set R 0 0 true) ⟨s.sl, upd s.ob R (voidO e)⟩ a w := by
  have hne : ∀ r, s.ob.dom r → r ≠ R := fun r hr e => hr (by rw [e]; exact hf)
  have t : Turn K m (m.set R 0 0 true) s.ob (upd s.ob R (voidO e)) w w (fun r => r = R) := by
    refine ⟨fun r hr => upd_ne hr, fun r hr => ?_, fun r hr => (NM.set_other (hne r hr)).1, fun r hr => (NM.set_other (hne r hr)).2.1, fun r hr => (NM.set_other (hne r hr)).2.2, Ev.refl _ _,
      fun r hr _ hv => ?_, fun r r' hr hr' _ _ _ _ _ => hr.trans hr'.symm⟩
    · show upd s.ob R _ r ≠ none
      rw [upd_ne (hne r hr)]
      exact hr
    · subst hr
      rw [NM.set_same.2.2] at hv
      cases hv
  have hh : HRel K (m.set R 0 0 true) (upd s.ob R (voidO e)) w := t.rel h.heap (fun r o hr ho => by
      subst hr
      rw [upd_same] at ho
      injection ho with ho
      injection ho with ho
      subst ho
      exact ⟨.inl ⟨NM.set_same.2.2, rfl, rfl⟩⟩) (fun r o hr ho hf _ => by
      subst hr
      rw [upd_same] at ho
      injection ho with ho
      injection ho with ho
      subst ho
      cases hf)
  exact h.turn (dst := none) (v := .bot) (u := undef) t hh (fun d hd => by cases hd) trivial
theorem rc_void {R sz : Nat} {dom : Nat → Prop} {S : Nat → Prop} (hd : dom R) : RC w S (m.set R 0 0 true) dom (.row R sz 0 0 .grow) (.slice none 0 0) :=
  ⟨hd, none, 0, rfl, Nat.le_refl _, by omega, rfl, .inl ⟨NM.set_same.2.2, rfl, rfl, rfl⟩⟩
theorem sound_void {c : Code} (t R sz : Nat) (e : TypeId) (h1 : s.sl t = .a (.c .nil)) (h2 : s.ob R = none) (h : Sound P K F c Q ⟨upd s.sl t (.a (.c (.row R sz 0 0 .grow))), upd s.ob R (voidO e)⟩) : Sound P K F c Q s := fun m a w hr => by
  have hv := hr.slot t
  rw [h1] at hv
  have hv : a.tmps.getD t undef = .slice none 0 0 := hv
  refine h _ a w (Rel.reslot (hr.void h2) ?_)
  rw [hv]
  exact (show RC w (Vis K (m.set R 0 0 true) (upd s.ob R (voidO e)) w) (m.set R 0 0 true) (Hp.dom (upd s.ob R (voidO e))) (.row R sz 0 0 .grow) (.slice none 0 0) from rc_void (by simp [Hp.dom, upd, voidO]))
theorem sound_voidC {c : Code} (r i R sz : Nat) (e : TypeId) {o : AObj} (h1 : s.ob r = some (some o)) (hi : o.cs[i]? = some .nil) (hfr : o.fr = false) (h2 : s.ob R = none)
    (h : Sound P K F c Q ⟨s.sl, upd (upd s.ob r (some (some { o with cs := o.cs.set i (.row R sz 0 0 .grow) }))) R (voidO e)⟩) : Sound P K F c Q s := fun m a w hr => by
  have hrR : r ≠ R := fun e => by rw [e, h2] at h1; cases h1
  have h9 := hr.void (e := e) h2
  have ho : (upd s.ob R (voidO e)) r = some (some o) := by rw [upd_ne hrR]; exact h1
  have hi' := (List.getElem?_eq_some_iff.1 hi).1
  refine h (m.set R 0 0 true) a w ?_
  rw [upd_comm (Ne.symm hrR)]
  generalize hm : m.set R 0 0 true = m' at *
  generalize hH : upd s.ob R (voidO e) = H at *
  have hvd : m'.vd r = false := by
    rcases (h9.heap.obj r o ho).row with ⟨_, hcs, _⟩ | ⟨hv, _⟩
    · rw [hcs] at hi'
      cases hi'
    · exact hv
  have t : Turn K m' m' H (upd H r (some (some { o with cs := o.cs.set i (.row R sz 0 0 .grow) }))) w w (fun x => x = r) := by
    refine ⟨fun r' hr' => upd_ne hr', fun r' hr' => ?_, fun _ _ => rfl, fun _ _ => rfl, fun _ _ => rfl, Ev.refl _ _, fun r' hr' ⟨o', h1, h2⟩ hv' => .inl ⟨r, rfl, ⟨o, ho, hfr⟩, hvd, by rw [hr']⟩, fun r1 r2 hr hr' _ _ _ _ _ => hr.trans hr'.symm⟩
    show upd H r _ r' ≠ none
    unfold upd
    split
    · simp
    · exact hr'
  have hdR : Hp.dom (upd H r (some (some { o with cs := o.cs.set i (.row R sz 0 0 .grow) }))) R := by
    show upd H r _ R ≠ none
    rw [upd_ne (Ne.symm hrR), ← hH, upd_same]
    simp [voidO]
  have k := t.keep h9.heap
  have hh : HRel K m' (upd H r (some (some { o with cs := o.cs.set i (.row R sz 0 0 .grow) }))) w := t.rel h9.heap (fun r' o' hr' ho' => by
      subst hr'
      rw [upd_same] at ho'
      injection ho' with ho'
      injection ho' with ho'
      subst ho'
      rcases (h9.heap.obj r' o ho).row with ⟨hv, _⟩ | ⟨hv, arr, g1, g2, g3, g4, g5⟩
      · rw [hvd] at hv
        cases hv
      · refine ⟨.inr ⟨hv, arr, g1, g2, fun he => by simpa using g3 he, by simpa using g4, fun j x hx => ?_⟩⟩
        by_cases hj : i = j
        · subst hj
          obtain ⟨u, hu, hrc⟩ := g5 i _ hi
          have hu' : u = .slice none 0 0 := hrc
          subst hu'
          have hx : (o.cs.set i (.row R sz 0 0 .grow))[i]? = some x := hx
          rw [List.getElem?_set_self hi'] at hx
          injection hx with hx
          subst hx
          refine ⟨_, hu, ?_⟩
          rw [← hm]
          exact rc_void hdR
        · have hx : (o.cs.set i (.row R sz 0 0 .grow))[j]? = some x := hx
          rw [List.getElem?_set_ne hj] at hx
          obtain ⟨u, hu, hrc⟩ := g5 j x hx
          exact ⟨u, hu, k.rc hrc⟩) (fun r' o' hr' ho' hf _ => by
      subst hr'
      rw [upd_same] at ho'
      injection ho' with ho'
      injection ho' with ho'
      subst ho'
      rw [show o.fr = true from hf] at hfr
      cases hfr)
  exact h9.turn (dst := none) (v := .bot) (u := undef) t hh (fun d hd => by cases hd) trivial
/-- A slot is turned to data. -/
theorem sound_data {c : Code} (t : Nat) (h : (cvArgs [s.sl t] fun ds U => .done (.tup (ds.map DV.av)) U).run s.ob [] (fun _ out => match out with
    | .val (.tup [v]) U => Sound P K F c Q ⟨upd s.sl t (.a v), updO s.ob U⟩
    | _ => False)) : Sound P K F c Q s := fun m a w hr => by
  have hsl := hr.slot t
  have key : QG s (fun out => match out with
    | .val (.tup [v]) U => Rel K F m ⟨upd s.sl t (.a v), updO s.ob U⟩ a w
    | _ => True) (cvArgs [s.sl t] fun ds U => .done (.tup (ds.map DV.av)) U) := by
    refine ok_cvArgs (us := [a.tmps.getD t undef]) hr rfl (fun i x v hx hv => ?_) fun ys U hcv => .done ?_
    · cases i with
      | zero =>
        have hx : some (s.sl t) = some x := hx
        have hv : some (a.tmps.getD t undef) = some v := hv
        injection hx with hx
        injection hv with hv
        subst hx hv
        exact hsl
      | succ i => simp at hx
    · obtain ⟨hf1, hf2⟩ := hcv
      obtain ⟨k1, k2, k3, _⟩ := Rel.freezeAll (s := s) U s hr rfl (fun r x hx => .inl hx) hf1 (fun b hb => hb)
      obtain ⟨hd1, hd2⟩ := hf2 _ k1.heap k2 k3
      match ys, hd1 with
      | [y], _ =>
        refine Rel.reslot k1 (ra_of_drd ?_)
        exact hd2 0 y _ rfl rfl
  obtain ⟨rs, out, h1, h2⟩ := key _ _ h
  cases out with
  | val v U =>
    match v, h1, h2 with
    | .tup [v], h1, h2 => exact h1 _ a w h2
  | pan v U => exact h1.elim
end
@[go_sem] theorem ba_list {x : List UInt8} : ByteArray.toList ⟨x.toArray⟩ = x := by simp [ByteArray.toList_eq]
theorem ex_bytes {y : List UInt8} {p : List UInt8 → Prop} (h : p y) : ∃ x : List UInt8, (x.length = y.length ∧ y.map bD = x.map bD) ∧ p x := ⟨y, ⟨rfl, rfl⟩, h⟩
/-- An empty slice: its address is told. -/
theorem spec_empty {G : Nat → Option (List D)} {P : Program} {f : FuncId} {pre post : List DV} {out : DR} (hp : out.plain = true) (h : ∀ A c, Spec P G f (pre ++ .c (.v (.slice A 0 c)) :: post) out) : Spec P G f (pre ++ .c (.sl 0 []) :: post) out := by
  refine .mk0 hp ?_
  intro w S vs hS hT hA
  obtain ⟨hl, hc⟩ := hA
  have hlt : pre.length < vs.length := by rw [hl]; simp
  obtain ⟨A, c, hu, _⟩ := rd_sl (w := w) (S := S) (cs := []) (n := 0) (u := vs[pre.length]) (hc pre.length (.c (.sl 0 [])) _ (by simp) (List.getElem?_eq_getElem hlt))
  refine (h A c).get0 hp w S vs hS hT ⟨by rw [hl]; simp, fun i x v hx hv => ?_⟩
  by_cases hi : i = pre.length
  · subst hi
    rw [List.getElem?_append_right (Nat.le_refl _), Nat.sub_self] at hx
    have hx : some (DV.c (.v (.slice A 0 c))) = some x := hx
    injection hx with hx
    subst hx
    rw [List.getElem?_eq_getElem hlt, hu] at hv
    injection hv with hv
    subst hv
    exact .v _ rfl
  · refine hc i x v ?_ hv
    rw [List.getElem?_append] at hx ⊢
    split at hx
    · rename_i h1
      rw [if_pos h1]
      exact hx
    · rename_i h1
      rw [if_neg h1]
      obtain ⟨j, hj⟩ : ∃ j, i - pre.length = j + 1 := ⟨i - pre.length - 1, by omega⟩
      rw [hj] at hx ⊢
      exact hx
attribute [go_sem] renK eqS eqO nmA nmT nmS nmO objRen SV.ren AV.ren C.ren voidO
section
variable {ob : List (Nat × Option AObj)} {ρ : Nat → Nat}
@[go_sem] theorem nmC_d {x : D} : nmC ob (.d x) = True := by simp [nmC, C.names]
@[go_sem] theorem nmC_nil : nmC ob .nil = True := by simp [nmC, C.names]
@[go_sem] theorem nmC_ptr {r off : Nat} : nmC ob (.ptr r off) = (nmR ob r = true) := by simp [nmC, C.names]
@[go_sem] theorem nmC_row {r sz off n : Nat} {cap : Cap} : nmC ob (.row r sz off n cap) = (nmR ob r = true) := by simp [nmC, C.names]
@[go_sem] theorem nmC_fn {f : FuncId} {caps : List (Nat × Nat)} : nmC ob (.fn f caps) = (caps.all (fun p => nmR ob p.1) = true) := by simp [nmC, C.names]
@[go_sem] theorem nmL_nil : nmL ob [] = True := by simp [nmL]
@[go_sem] theorem nmL_cons {x : C} {l : List C} : nmL ob (x :: l) = (nmC ob x ∧ nmL ob l) := by simp [nmL]
@[go_sem] theorem nmL_app {l k : List C} : nmL ob (l ++ k) = (nmL ob l ∧ nmL ob k) := by simp [nmL, or_imp, forall_and]
@[go_sem] theorem nmL_map {α : Type} {l : List α} {f : α → D} : nmL ob (l.map fun x => .d (f x)) = True := by simp [nmL, nmC, C.names]
@[go_sem] theorem nmL_mapd {l : List D} : nmL ob (l.map C.d) = True := by simp [nmL, nmC, C.names]
@[go_sem] theorem nmL_rep {n : Nat} {x : D} : nmL ob (List.replicate n (.d x)) = True := by simp +contextual [nmL, nmC, C.names]
@[go_sem] theorem ren_map {α : Type} {l : List α} {f : α → D} : (l.map fun x => C.d (f x)).map (C.ren ρ) = l.map fun x => C.d (f x) := by simp [C.ren]
@[go_sem] theorem ren_mapd {l : List D} : (l.map C.d).map (C.ren ρ) = l.map C.d := by simp [C.ren]
@[go_sem] theorem ren_rep {n : Nat} {x : D} : (List.replicate n (C.d x)).map (C.ren ρ) = List.replicate n (C.d x) := by simp [C.ren]
@[go_sem] theorem ren_app {l k : List C} : (l ++ k).map (C.ren ρ) = l.map (C.ren ρ) ++ k.map (C.ren ρ) := by simp
@[go_sem] theorem nmR_in {r : Nat} : nmR ob r = (lkO ob r).isSome := rfl
@[go_sem] theorem d0Ok_0 {n : Nat} : d0Ok ρ (Fr0 n) ob = True := eq_true fun r h => h.elim
@[go_sem] theorem d0Ok_O {n : Nat} {m : NM} {l : List Nat} : d0Ok ρ (FrO n m l) ob = (l.all (fun r => nmR ob r && ρ r == r) = true) := by
  rw [List.all_eq_true]
  simp [d0Ok, FrO]
@[go_sem] theorem lessL_eq {F : Fr} {s : FSt} {S : LSt} : LessL ρ S F s = (eqS ρ s.sl S.sl ∧ eqO ρ s.ob S.ob ∧ (S.ob.map fun p => ρ p.1).Nodup ∧ nmS S.ob S.sl ∧ nmO S.ob S.ob ∧ d0Ok ρ F S.ob) := rfl
end
@[go_sem] theorem dOnly_map {l : List D} : dOnly (l.map C.d) = some l := by
  induction l with
  | nil => rfl
  | cons x l ih => simp [dOnly, dOf, ih]
@[go_sem] theorem dOnly_append {a b : List C} : dOnly (a ++ b) = (dOnly a).bind fun x => (dOnly b).map (x ++ ·) := by
  induction a with
  | nil => cases h : dOnly b <;> simp [dOnly, h]
  | cons y a ih =>
    show dOnly (y :: (a ++ b)) = _
    simp only [dOnly, ih]
    cases dOf y <;> cases dOnly a <;> cases dOnly b <;> rfl
theorem flat_len {α : Type} {f : α → List D} {n : Nat} (hf : ∀ x, (f x).length = n) : ∀ l : List α, (l.flatMap f).length = l.length * n
  | [] => by simp
  | x :: l => by rw [List.flatMap_cons, List.length_append, hf, flat_len hf l, List.length_cons, Nat.add_mul]; omega
theorem flat_at {α : Type} {f : α → List D} {n : Nat} (hf : ∀ x, (f x).length = n) : ∀ {l : List α} {k : Nat} {x : α}, l[k]? = some x → ((l.flatMap f).drop (k * n)).take n = f x
  | [], k, x, h => by simp at h
  | y :: l, 0, x, h => by
    have h : y = x := by simpa using h
    subst h
    simp [List.flatMap_cons, List.take_append, hf]
  | y :: l, k + 1, x, h => by
    have h : l[k]? = some x := by simpa using h
    rw [List.flatMap_cons, List.drop_append, List.drop_of_length_le (by rw [hf, Nat.add_mul]; omega), List.nil_append, hf, show (k + 1) * n - n = k * n by rw [Nat.add_mul]; omega]
    exact flat_at hf h
theorem pos_beq {n : Nat} : decide ((0 : Int) < (n : Int)) = !(n == 0) := by
  rw [Bool.eq_iff_iff]
  simp
  omega
theorem wrap8 {x : Int} (h0 : 0 ≤ x) (h1 : x ≤ 255) : IntKind.u8.wrap x = x := by
  rw [IntKind.wrap_u8]
  omega
theorem max_r {a b : Int} (h : b ≤ a) : (if b > a then b else a) = a := by
  rw [if_neg (by omega)]
theorem max_l {a b : Int} (h : a < b) : (if b > a then b else a) = b := by
  rw [if_pos (by omega)]
theorem min_r {a b : Int} (h : a ≤ b) : (if b < a then b else a) = a := by
  rw [if_neg (by omega)]
theorem min_l {a b : Int} (h : b < a) : (if b < a then b else a) = b := by
  rw [if_pos (by omega)]
theorem rep_one {c : C} : (List.replicate 1 [c]).flatten = [c] := rfl
attribute [go_sem] bne List.replicate_zero List.flatten_nil rep_one List.size_toArray
/-! short words -/
@[go_sem] def vI (n : Int) : SV := .a (.c (.d (.v (.int .i64 n))))
@[go_sem] def vB (b : Bool) : SV := .a (.c (.d (.v (.bool b))))
@[go_sem] def vD (x : D) : SV := .a (.c (.d x))
@[go_sem] def vP (r off : Nat) : SV := .a (.c (.ptr r off))
@[go_sem] def vR (r sz n : Nat) : SV := .a (.c (.row r sz 0 n .grow))
attribute [go_sem] List.getElem?_toArray Option.bind_eq_bind
attribute [go_sem] List.nodup_nil List.nodup_cons List.mem_cons List.not_mem_nil Option.isSome_some Option.isSome_none
attribute [go_sem] ownArgs renN callO svOf rawOf initA someO List.find?_cons List.find?_nil List.contains_cons List.contains_nil Option.getD_some Option.getD_none
end Go.Proofs.YtdakeodebgggfaaDoor

/- A machine of values, 19: values of parts held against each other; objects of which less is known. -/
namespace Go.Proofs.YtdakeodebgggfaaDoor
open Go.RowKit
set_option linter.unusedVariables false
set_option linter.unusedSimpArgs false

section
variable {G : Nat → Option (List D)} {P : Program} {K : Ctx G} {F : Fr} {Qx : Exit → FSt → Prop} {s : FSt} {m : NM} {a : Act} {w : World}
/-- Of an object no more is known than its first cells. -/
def AObj.trim (o : AObj) (k : Nat) : AObj := { o with cs := o.cs.take k, ex := false }
theorem Rel.trim {r k : Nat} {o : AObj} (h : Rel K F m s a w) (ho : s.ob r = some (some o)) : Rel K F m ⟨s.sl, upd s.ob r (some (some (o.trim k)))⟩ a w := by
  obtain ⟨H, hH⟩ : ∃ H : Hp, upd s.ob r (some (some (o.trim k))) = H := ⟨_, rfl⟩
  rw [hH]
  have hr : H r = some (some (o.trim k)) := by rw [← hH, upd_same]
  have hne : ∀ x, x ≠ r → H x = s.ob x := fun x hx => by rw [← hH, upd_ne hx]
  have hdom : ∀ x, s.ob.dom x → H.dom x := fun x hx => by
    by_cases e : x = r
    · subst e
      simp [Hp.dom, hr]
    · simpa [Hp.dom, hne x e] using hx
  have hown : ∀ x, H.own x → s.ob.own x := fun x ⟨o', h1, h2⟩ => by
    by_cases e : x = r
    · subst e
      rw [hr] at h1
      injection h1 with h1
      injection h1 with h1
      subst h1
      exact ⟨o, ho, h2⟩
    · rw [hne x e] at h1
      exact ⟨o', h1, h2⟩
  have hv : ∀ b, Vis K m s.ob w b → Vis K m H w b := fun b hb => ⟨hb.1, hb.2.1, fun x hx => hb.2.2 x (hown x hx)⟩
  have kp : Keep w w (Vis K m s.ob w) (Vis K m H w) m m s.ob.dom H.dom := ⟨hv, fun _ _ => rfl, hdom, fun _ _ => rfl, fun _ _ => rfl, fun _ _ => rfl⟩
  refine ⟨h.size, h.defers, fun t => kp.rs (h.slot t), ⟨fun x o' hx => ?_, fun x y hx hy => h.heap.dist x y (hown x hx) (hown y hy), fun x hx => h.heap.loc x (hown x hx), fun x o' hx hf hvd => ?_, h.heap.ev, fun g cs hg => (h.heap.glob g cs hg).mono hv (fun _ _ => rfl)⟩, fun x hx => ⟨hdom x (h.names x hx).1, (h.names x hx).2⟩⟩
  · by_cases e : x = r
    · subst e
      have hx : H x = some (some o') := hx
      rw [hr] at hx
      injection hx with hx
      injection hx with hx
      subst hx
      refine ⟨?_⟩
      rcases (h.heap.obj x o ho).row with ⟨h1, h2, h3⟩ | ⟨h1, arr, h2, h3, h4, h5, h6⟩
      · exact .inl ⟨h1, by simp [AObj.trim, h2], rfl⟩
      · refine .inr ⟨h1, arr, h2, h3, (fun e => by cases e), by simp only [AObj.trim, List.length_take]; omega, fun i y hy => ?_⟩
        simp only [AObj.trim, List.getElem?_take] at hy
        split at hy
        · obtain ⟨u, hu, hc⟩ := h6 i y hy
          exact ⟨u, hu, kp.rc hc⟩
        · cases hy
    · have hx : H x = some (some o') := hx
      rw [hne x e] at hx
      refine ⟨?_⟩
      rcases (h.heap.obj x o' hx).row with h1 | ⟨h1, arr, h2, h3, h4, h5, h6⟩
      · exact .inl h1
      · exact .inr ⟨h1, arr, h2, h3, h4, h5, fun i y hy => by
          obtain ⟨u, hu, hc⟩ := h6 i y hy
          exact ⟨u, hu, kp.rc hc⟩⟩
  · by_cases e : x = r
    · subst e
      have hx : H x = some (some o') := hx
      rw [hr] at hx
      injection hx with hx
      injection hx with hx
      subst hx
      exact hv _ (h.heap.fz x o ho hf hvd)
    · have hx : H x = some (some o') := hx
      rw [hne x e] at hx
      exact hv _ (h.heap.fz x o' hx hf hvd)
theorem sound_trim {c : Code} (r k : Nat) {o : AObj} (ho : s.ob r = some (some o)) (h : Sound P K F c Qx ⟨s.sl, upd s.ob r (some (some (o.trim k)))⟩) : Sound P K F c Qx s := fun m a w hr => h m a w (hr.trim ho)

/-- A row that has its whole block may grow. -/
theorem sound_grow {c : Code} (t r sz n k : Nat) {o : AObj} (h1 : s.sl t = .a (.c (.row r sz 0 n (.ex k)))) (h2 : s.ob r = some (some o)) (h3 : o.ex = true) (h4 : o.cs.length = k * sz) (h : Sound P K F c Qx ⟨upd s.sl t (.a (.c (.row r sz 0 n .grow))), s.ob⟩) : Sound P K F c Qx s := fun m a w hr => by
  have hv := hr.slot t
  rw [h1] at hv
  obtain ⟨hdm, A, c', hu, hnc, hcm, hcap⟩ := rs_row hv
  obtain ⟨rfl, hA⟩ := hcap
  obtain ⟨hvd, hA⟩ := hA (.inr rfl)
  obtain ⟨arr, g1, g2, g3, g4, g5⟩ := hr.obj h2 hvd
  refine h m a w (hr.reslot ?_)
  exact ⟨hdm, A, c', hu, hnc, hcm, rfl, .inr ⟨hvd, hA, by rw [← g2, g3 h3, h4]⟩⟩

/-- A loop of a few rounds. -/
def LoopU (P : Program) {G : Nat → Option (List D)} (K : Ctx G) (F : Fr) (c : Code) (Q : Exit → FSt → Prop) : Nat → FSt → Prop
  | 0, _ => False
  | n + 1, s => Sound P K F c (Then (LoopU P K F c Q n) Q) s
theorem loopU_step {c : Code} {n : Nat} (h : Sound P K F c (Then (LoopU P K F c Qx n) Qx) s) : LoopU P K F c Qx (n + 1) s := h
theorem sound_loopN {c : Code} (n : Nat) (h : LoopU P K F c Qx n s) : Sound P K F (.loop c) Qx s := fun m a w hr => by
  intro b k cs
  have key : ∀ n s m a w, LoopU P K F c Qx n s → Rel K F m s a w → ∃ e a' w', Lift K F Qx e a' w' ∧ Arrives P (lone (b.at a (.code c :: .inLoop c :: k)) cs w) b k cs e a' w' := by
    intro n
    induction n with
    | zero => exact fun _ _ _ _ h => h.elim
    | succ n ih =>
      intro s m a w h hr
      obtain ⟨e, a₁, w₁, ⟨m₁, s₁, hr₁, hq⟩, harr⟩ := h m a w hr b (.inLoop c :: k) cs
      cases e with
      | normal =>
        obtain ⟨e₂, a₂, w₂, hq₂, harr₂⟩ := ih s₁ m₁ a₁ w₁ hq hr₁
        exact ⟨e₂, a₂, w₂, hq₂, .of_steps (Steps.trans harr (.one step_inLoop)) harr₂⟩
      | exit id => exact ⟨_, a₁, w₁, ⟨m₁, s₁, hr₁, hq⟩, .pass (x := .inLoop c) rfl (fun _ _ => .inl (by simp)) harr⟩
      | goto l => exact ⟨_, a₁, w₁, ⟨m₁, s₁, hr₁, hq⟩, .pass (x := .inLoop c) rfl (fun _ _ => .inl (by simp)) harr⟩
      | ret => exact ⟨_, a₁, w₁, ⟨m₁, s₁, hr₁, hq⟩, .pass (x := .inLoop c) rfl (fun _ _ => .inl (by simp)) harr⟩
      | panic ch => exact ⟨_, a₁, w₁, ⟨m₁, s₁, hr₁, hq⟩, .pass (x := .inLoop c) rfl (fun _ _ => .inl (by simp)) harr⟩
      | outgrown => exact ⟨_, a₁, w₁, ⟨m₁, s₁, hr₁, hq⟩, .pass (x := .inLoop c) rfl (fun _ _ => .inl (by simp)) harr⟩
  obtain ⟨e, a', w', hq, harr⟩ := key n s m a w h hr
  exact ⟨e, a', w', hq, .of_steps (.one step_loop) harr⟩

/-! values of parts, held against each other -/
variable {H : Hp} {rs : List Nat} {Kc : List Nat → Out → Prop} {t e : TypeId} {xs ys : List C}
theorem run_agg_eql {b : Bool} {L1 L2 : List Lit} (h1 : eqTy P t = true) (h2 : KeyL P t xs L1) (h3 : KeyL P t ys L2) (h4 : b = true ↔ L1 = L2) (h : Kc rs (.val (vB b) [])) : Q.run H rs Kc (aggQ P .eql t xs ys) := ⟨(L1, L2), b, ⟨h1, h2, h3, h4⟩, h⟩
theorem run_agg_neq {b : Bool} {L1 L2 : List Lit} (h1 : eqTy P t = true) (h2 : KeyL P t xs L1) (h3 : KeyL P t ys L2) (h4 : b = true ↔ L1 = L2) (h : Kc rs (.val (vB !b) [])) : Q.run H rs Kc (aggQ P .neq t xs ys) := ⟨(L1, L2), b, ⟨h1, h2, h3, h4⟩, h⟩
def litB (x : UInt8) : Lit := .int .u8 x.toNat
theorem litB_map {l k : List UInt8} : (l == k) = true ↔ l.map litB = k.map litB := by
  rw [beq_iff_eq]
  refine ⟨fun h => by rw [h], fun h => ?_⟩
  induction l generalizing k with
  | nil => cases k <;> first | rfl | cases h
  | cons x l ih =>
    cases k with
    | nil => cases h
    | cons y k =>
      simp only [List.map_cons, List.cons.injEq, litB, Lit.int.injEq, true_and] at h
      rw [ih (k := k) (by simpa [litB] using h.2), UInt8.toNat_inj.1 (show x.toNat = y.toNat by omega)]
theorem valsOf_bytes {l : List UInt8} : valsOf ((l.map bD).map C.d) = some (l.map fun b => .int .u8 (b.toNat : Int)) := by
  induction l with
  | nil => rfl
  | cons x l ih => simp only [List.map_cons, bD, valsOf] at ih ⊢; rw [ih]; rfl
theorem mapM_bytes {f : Nat → Option (List Lit)} : ∀ {l : List UInt8} {k : Nat}, (∀ i x, l[i]? = some x → f (k + i) = some [litB x]) → ((List.range' k l.length).mapM f) = some (l.map fun x => [litB x])
  | [], k, h => by simp
  | x :: l, k, h => by
    rw [List.length_cons, List.range'_succ, List.mapM_cons, show f k = _ from h 0 x rfl]
    rw [mapM_bytes (l := l) (k := k + 1) fun i y hy => by rw [show k + 1 + i = k + (i + 1) by omega]; exact h (i + 1) y (by simpa using hy)]
    rfl
theorem keyL_bytes {n : Nat} {l : List UInt8} (ht : P.underlying t = some (.array n e)) (he : P.underlying e = some (.int .u8)) (h1 : P.cellsOf e = 1) (h2 : P.cellsOf t = n) (hl : l.length = n) : KeyL P t ((l.map bD).map C.d) (l.map litB) := by
  refine ⟨2, _, valsOf_bytes, by rw [List.length_map, h2]; exact hl, ?_⟩
  unfold Program.keyLits
  simp only [ht]
  rw [if_pos (by rw [List.length_map, h2]; exact hl)]
  rw [← hl, List.range_eq_range', mapM_bytes]
  · rw [Option.map_some]
    congr 1
    clear hl
    induction l with
    | nil => rfl
    | cons x l ih => simpa using ih
  · intro i x hx
    rw [Nat.zero_add, h1, Nat.mul_one]
    have h3 : ((l.map fun b => Value.int .u8 (b.toNat : Int)).drop i).take 1 = [.int .u8 (x.toNat : Int)] := by
      rw [List.drop_eq_getElem?_toList_append, List.getElem?_map, hx]
      rfl
    rw [h3]
    unfold Program.keyLits
    simp only [he]
    have : (Lit.int .u8 (x.toNat : Int)).wf = true := by
      have := x.toNat_lt
      simp only [Lit.wf, Bool.and_eq_true, decide_eq_true_eq]
      rw [show IntKind.u8.min = 0 by decide, show IntKind.u8.max = 255 by decide]
      omega
    simp [this, litB]
end
/-! functions that are handed objects -/
section
variable {G : Nat → Option (List D)} {P : Program} {s : FSt} {rl : List ResultVar}
def obAt (H : Hp) : List (Nat × Option AObj) → Prop
  | [] => True
  | (r, o) :: l => H r = some o ∧ obAt H l
theorem obAt_ok {H : Hp} : ∀ {l : List (Nat × Option AObj)}, obAt H l → ∀ p ∈ l, H p.1 = some p.2
  | (r, o) :: l, h, p, hp => by
    rcases List.mem_cons.1 hp with rfl | hp
    · exact h.1
    · exact obAt_ok h.2 p hp
/-- The result: an object's address, or a row of it; data. -/
def rawQ (v : SV) (H' : List (Nat × Option AObj)) : List SV → Q := fun vs => .any Bool fun raw => match raw with
  | true => .need (rawOf vs = v ∧ vs.length = 1 ∧ ∀ r ∈ v.names, lkO H' r ≠ none) (.done .bot [])
  | false => cvArgs vs fun ds U => .need (svOf ds = v ∧ offU H' U) (.done .bot [])
theorem retO_ret {v : SV} {H' : List (Nat × Option AObj)} (h : obAt s.ob H') (h2 : (resQ P s.sl rl (rawQ v H')).run s.ob [] (fun _ _ => True)) : RetO P rl (.ret v H') .ret s := ⟨obAt_ok h, h2⟩
theorem retO_normal {v : SV} {H' : List (Nat × Option AObj)} (h : obAt s.ob H') (h2 : (resQ P s.sl rl (rawQ v H')).run s.ob [] (fun _ _ => True)) : RetO P rl (.ret v H') .normal s := ⟨obAt_ok h, h2⟩
theorem retO_pan {v v' : Value} {H' : List (Nat × Option AObj)} (h : v' = v) (h2 : obAt s.ob H') : RetO P rl (.pan v H') (.panic [{ v := v', recovered := false }]) s := by
  subst h
  exact ⟨rfl, obAt_ok h2⟩
theorem raw_t {v : SV} {H' : List (Nat × Option AObj)} {vs : List SV} {H : Hp} {rs : List Nat} (h : rawOf vs = v) (h1 : vs.length = 1) (h2 : v.names.all (fun r => (lkO H' r).isSome) = true) : (rawQ v H' vs).run H rs (fun _ _ => True) :=
  ⟨true, ⟨h, h1, fun r hr => by
    have := List.all_eq_true.1 h2 r hr
    intro e
    rw [e] at this
    cases this⟩, trivial⟩
theorem raw_f {v : SV} {H' : List (Nat × Option AObj)} {vs : List SV} {H : Hp} {rs : List Nat} (h : (cvArgs vs fun ds U => .need (svOf ds = v ∧ offU H' U) (.done .bot [])).run H rs (fun _ _ => True)) : (rawQ v H' vs).run H rs (fun _ _ => True) := ⟨false, h⟩
theorem specO_go {f : FuncId} {fn : Func} {c : Code} {args : List AV} {H : List (Nat × AObj)} {out : OutO} {n : Nat} (hf : P.funcs[f]? = some fn) (hb : fn.body = some c) (hr : fn.results = ⟨rl⟩) (hn : fn.ntmps = n) (ha : Nat.ble args.length n = true)
    (hd : hpOk out.hp) (hk : H.all (fun p => (lkO out.hp p.1).isSome) = true)
    (h : ∀ (K : Ctx G) (m : NM), Sound P K (FrO n m (H.map (·.1))) c (RetO P rl out) ⟨lkS (initA 0 args), lkO (someO H)⟩) : SpecO P G f args H out :=
  specO_of hf hb hr hn ha (hpOk_ok hd) (fun r hr e => by
    obtain ⟨p, hp, rfl⟩ := List.mem_map.1 hr
    have := List.all_eq_true.1 hk p hp
    rw [e] at this
    cases this) h
theorem int_beq {a b : Nat} : ((a : Int) == (b : Int)) = (a == b) := by
  rw [Bool.eq_iff_iff]
  simp only [beq_iff_eq]
  omega
theorem int_beqL {a b : Nat} : ((a : Int) == (no_index (OfNat.ofNat b))) = (a == OfNat.ofNat b) := int_beq (b := b)
theorem int_beq0 {n : Nat} : ((n : Int) == 0) = (n == 0) := by
  rw [Bool.eq_iff_iff]
  simp
theorem flat_atC {α : Type} {f : α → List D} {n : Nat} (hf : ∀ x, (f x).length = n) {l : List α} {k : Nat} {x : α} (h : l[k]? = some x) : (((l.flatMap f).map C.d).drop (k * n)).take n = (f x).map C.d := by
  rw [← List.map_drop, ← List.map_take, flat_at hf h]
theorem splice_same {cs : List C} {off n : Nat} {vs : List C} (h : (cs.drop off).take n = vs) : cs.take off ++ vs ++ cs.drop (off + n) = cs := by
  conv => rhs; rw [← List.take_append_drop off cs, ← List.take_append_drop n (cs.drop off), h, List.drop_drop]
  rw [List.append_assoc]
@[go_sem] theorem dOnly_mapf {α : Type} {f : α → D} {l : List α} : dOnly (l.map fun x => C.d (f x)) = some (l.map f) := by
  have := dOnly_map (l := l.map f)
  rwa [List.map_map] at this
@[go_sem] theorem rep_2 {α : Type} {x : α} : List.replicate 2 x = [x, x] := rfl
@[go_sem] theorem rep_3 {α : Type} {x : α} : List.replicate 3 x = [x, x, x] := rfl
@[go_sem] theorem rep_4 {α : Type} {x : α} : List.replicate 4 x = [x, x, x, x] := rfl
@[go_sem] theorem rep_5 {α : Type} {x : α} : List.replicate 5 x = [x, x, x, x, x] := rfl
@[go_sem] theorem rep_6 {α : Type} {x : α} : List.replicate 6 x = [x, x, x, x, x, x] := rfl
@[go_sem] theorem rep_7 {α : Type} {x : α} : List.replicate 7 x = [x, x, x, x, x, x, x] := rfl
@[go_sem] theorem rep_8 {α : Type} {x : α} : List.replicate 8 x = [x, x, x, x, x, x, x, x] := rfl
attribute [go_sem] Option.map_some Option.bind_some List.flatten_cons
/-- An empty slice: its address is told. -/
theorem specO_empty {f : FuncId} {pre post : List AV} {H : List (Nat × AObj)} {out : OutO} (h : ∀ A c, SpecO P G f (pre ++ .c (.d (.v (.slice A 0 c))) :: post) H out) : SpecO P G f (pre ++ .c (.d (.sl 0 [])) :: post) H out := by
  intro K m vs hS hB hH hl hc
  have hlt : pre.length < vs.length := by rw [hl]; simp
  have h0 : RD K.w0 _ (.sl 0 []) vs[pre.length] := hc pre.length (.c (.d (.sl 0 []))) _ (by simp) (List.getElem?_eq_getElem hlt)
  obtain ⟨A, c, hu, _⟩ := rd_sl h0
  refine h A c K m vs hS hB hH (by rw [hl]; simp) fun i x v hx hv => ?_
  by_cases hi : i = pre.length
  · subst hi
    rw [List.getElem?_append_right (Nat.le_refl _), Nat.sub_self] at hx
    have hx : some (AV.c (.d (.v (.slice A 0 c)))) = some x := hx
    injection hx with hx
    subst hx
    rw [List.getElem?_eq_getElem hlt, hu] at hv
    injection hv with hv
    subst hv
    exact RD.v _ rfl
  · refine hc i x v ?_ hv
    rw [List.getElem?_append] at hx ⊢
    split at hx
    · rename_i h1
      rw [if_pos h1]
      exact hx
    · rename_i h1
      rw [if_neg h1]
      obtain ⟨j, hj⟩ : ∃ j, i - pre.length = j + 1 := ⟨i - pre.length - 1, by omega⟩
      rw [hj] at hx ⊢
      exact hx
attribute [go_sem] OutO.hp hpOk offN obAt offU List.map_nil
end
end Go.Proofs.YtdakeodebgggfaaDoor

/- S-expressions as trees, and how they lie in memory. -/
namespace Go.Proofs.YtdakeodebgggfaaDoor
open Go.RowKit
set_option linter.unusedVariables false

/-- A value: a list of others, or bytes, perhaps with a hint. -/
inductive Tree where
  | mk (list hinted : Bool) (hint data : List UInt8) (kids : List Tree)
def Tree.list : Tree → Bool | .mk l _ _ _ _ => l
def Tree.hinted : Tree → Bool | .mk _ h _ _ _ => h
def Tree.hint : Tree → List UInt8 | .mk _ _ x _ _ => x
def Tree.data : Tree → List UInt8 | .mk _ _ _ d _ => d
def Tree.kids : Tree → List Tree | .mk _ _ _ _ k => k
theorem Tree.eta (t : Tree) : t = .mk t.list t.hinted t.hint t.data t.kids := by cases t; rfl
theorem Tree.kid_lt {t x : Tree} (h : x ∈ t.kids) : SizeOf.sizeOf x < SizeOf.sizeOf t := by
  cases t
  have := List.sizeOf_lt_of_mem h
  simp only [Tree.kids] at this
  simp only [Tree.mk.sizeOf_spec]
  omega
theorem Tree.ind {P : Tree → Prop} (h : ∀ t, (∀ x ∈ t.kids, P x) → P t) (t : Tree) : P t :=
  h t fun x hx => Tree.ind h x
termination_by SizeOf.sizeOf t
decreasing_by exact Tree.kid_lt hx

/-- How a value lies in memory: five cells, and what they lead to. -/
def Tree.rd (w : World) (S : Nat → Prop) (cs : List Value) (t : Tree) : Prop :=
  ∃ A1 n1 c1 A2 n2 c2 A3 n3 c3, cs = [.bool t.list, .bool t.hinted, .slice A1 n1 c1, .slice A2 n2 c2, .slice A3 n3 c3] ∧ Rep.u8.sl w S A1 n1 c1 t.hint ∧ Rep.u8.sl w S A2 n2 c2 t.data ∧
    t.kids.length = n3 ∧ n3 ≤ c3 ∧ c3 ≤ 9223372036854775807 ∧ (0 < n3 → ∃ b o, A3 = some ⟨b, o, none⟩ ∧ S b ∧
      ∀ i x, (hx : t.kids[i]? = some x) → ∃ es, Tree.rd w S es x ∧ ∀ j u, es[j]? = some u → w.cell? ⟨b, o + i * 5 + j, none⟩ = some u)
termination_by SizeOf.sizeOf t
decreasing_by exact Tree.kid_lt (List.mem_of_getElem? hx)

theorem Tree.rd_len {w : World} {S : Nat → Prop} {cs : List Value} {t : Tree} (h : Tree.rd w S cs t) : cs.length = 5 := by
  rw [Tree.rd] at h
  obtain ⟨_, _, _, _, _, _, _, _, _, rfl, _⟩ := h
  rfl
theorem Tree.rd_keep {w w' : World} {S : Nat → Prop} (hk : ∀ p : Addr, S p.block → w'.cell? p = w.cell? p) : ∀ (t : Tree) {cs : List Value}, Tree.rd w S cs t → Tree.rd w' S cs t := by
  refine Tree.ind fun t ih cs h => ?_
  rw [Tree.rd] at h ⊢
  obtain ⟨A1, n1, c1, A2, n2, c2, A3, n3, c3, rfl, h1, h2, h3, h4, h5, h6⟩ := h
  refine ⟨A1, n1, c1, A2, n2, c2, A3, n3, c3, rfl, Rep.sl_keep h1 hk, Rep.sl_keep h2 hk, h3, h4, h5, fun hn => ?_⟩
  obtain ⟨b, o, rfl, hb, hr⟩ := h6 hn
  refine ⟨b, o, rfl, hb, fun i x hx => ?_⟩
  obtain ⟨es, he, hc⟩ := hr i x hx
  exact ⟨es, ih x (List.mem_of_getElem? hx) he, fun j u hu => by rw [hk _ hb]; exact hc j u hu⟩
theorem Tree.rd_more {w : World} {S S' : Nat → Prop} (hS : ∀ b, S b → S' b) : ∀ (t : Tree) {cs : List Value}, Tree.rd w S cs t → Tree.rd w S' cs t := by
  refine Tree.ind fun t ih cs h => ?_
  rw [Tree.rd] at h ⊢
  obtain ⟨A1, n1, c1, A2, n2, c2, A3, n3, c3, rfl, h1, h2, h3, h4, h5, h6⟩ := h
  refine ⟨A1, n1, c1, A2, n2, c2, A3, n3, c3, rfl, Rep.sl_more h1 hS, Rep.sl_more h2 hS, h3, h4, h5, fun hn => ?_⟩
  obtain ⟨b, o, rfl, hb, hr⟩ := h6 hn
  refine ⟨b, o, rfl, hS _ hb, fun i x hx => ?_⟩
  obtain ⟨es, he, hc⟩ := hr i x hx
  exact ⟨es, ih x (List.mem_of_getElem? hx) he, hc⟩

def Rep.tree : Rep Tree where
  size := 5
  pos := by omega
  rd := Tree.rd
  len := Tree.rd_len
  keep := fun h hk => Tree.rd_keep hk _ h
  more := fun h hS => Tree.rd_more hS _ h
  one := fun h u hu => by
    rw [Tree.rd] at h
    obtain ⟨_, _, _, _, _, _, _, _, _, rfl, _⟩ := h
    simp only [List.mem_cons, List.not_mem_nil, or_false] at hu
    rcases hu with rfl | rfl | rfl | rfl | rfl <;> rfl

/-- A value's five cells. -/
def Parts (w : World) (S : Nat → Prop) (t : Tree) (A1 : Option Addr) (n1 c1 : Nat) (A2 : Option Addr) (n2 c2 : Nat) (A3 : Option Addr) (n3 c3 : Nat) : Prop :=
  Rep.u8.sl w S A1 n1 c1 t.hint ∧ Rep.u8.sl w S A2 n2 c2 t.data ∧ Rep.tree.sl w S A3 n3 c3 t.kids
theorem Rep.tree_open {w : World} {S : Nat → Prop} {cs : List Value} {t : Tree} (h : Rep.tree.rd w S cs t) :
    ∃ A1 n1 c1 A2 n2 c2 A3 n3 c3, cs = [.bool t.list, .bool t.hinted, .slice A1 n1 c1, .slice A2 n2 c2, .slice A3 n3 c3] ∧ Parts w S t A1 n1 c1 A2 n2 c2 A3 n3 c3 := by
  have h' : Tree.rd w S cs t := h
  rw [Tree.rd] at h'
  obtain ⟨A1, n1, c1, A2, n2, c2, A3, n3, c3, rfl, h1, h2, h3, h4, h5, h6⟩ := h'
  exact ⟨A1, n1, c1, A2, n2, c2, A3, n3, c3, rfl, h1, h2, h3, h4, h5, h6⟩
theorem Rep.tree_mk {w : World} {S : Nat → Prop} {t : Tree} {A1 A2 A3 : Option Addr} {n1 c1 n2 c2 n3 c3 : Nat} (h : Parts w S t A1 n1 c1 A2 n2 c2 A3 n3 c3) :
    Rep.tree.rd w S [.bool t.list, .bool t.hinted, .slice A1 n1 c1, .slice A2 n2 c2, .slice A3 n3 c3] t := by
  show Tree.rd w S _ t
  rw [Tree.rd]
  exact ⟨A1, n1, c1, A2, n2, c2, A3, n3, c3, rfl, h.1, h.2.1, h.2.2.1, h.2.2.2.1, h.2.2.2.2.1, h.2.2.2.2.2⟩

/-- How much a value holds. -/
def Tree.wt (t : Tree) : Nat := 1 + t.hint.length + t.data.length + (t.kids.attach.map fun x => Tree.wt x.1).sum
termination_by SizeOf.sizeOf t
decreasing_by exact Tree.kid_lt x.2
theorem Tree.wt_eq (t : Tree) : t.wt = 1 + t.hint.length + t.data.length + (t.kids.map Tree.wt).sum := by
  rw [Tree.wt]
  congr 2
  simp
theorem sum_mem {l : List Tree} {x : Tree} (f : Tree → Nat) (h : x ∈ l) : f x ≤ (l.map f).sum := by
  induction l with
  | nil => cases h
  | cons y l ih =>
    simp only [List.map_cons, List.sum_cons]
    rcases List.mem_cons.1 h with rfl | h
    · omega
    · have := ih h; omega
theorem Tree.wt_kid {t x : Tree} (h : x ∈ t.kids) : x.wt < t.wt := by
  rw [Tree.wt_eq t]
  have := sum_mem Tree.wt h
  omega
theorem Tree.wt_kids (t : Tree) : t.kids.length ≤ t.wt := by
  rw [Tree.wt_eq t]
  have : ∀ l : List Tree, l.length ≤ (l.map Tree.wt).sum := by
    intro l
    induction l with
    | nil => simp
    | cons y l ih =>
      have : 1 ≤ y.wt := by rw [Tree.wt_eq]; omega
      simp only [List.map_cons, List.sum_cons, List.length_cons]
      omega
  have := this t.kids
  omega
theorem Tree.wt_hint (t : Tree) : t.hint.length ≤ t.wt := by rw [Tree.wt_eq]; omega
theorem Tree.wt_data (t : Tree) : t.data.length ≤ t.wt := by rw [Tree.wt_eq]; omega
end Go.Proofs.YtdakeodebgggfaaDoor

/- What is told of a tree: its parts, its depth, its form. -/
namespace Go.Proofs.YtdakeodebgggfaaDoor
set_option linter.unusedVariables false

def Tree.nodes (t : Tree) : Nat := 1 + (t.kids.attach.map fun x => Tree.nodes x.1).sum
termination_by SizeOf.sizeOf t
decreasing_by exact Tree.kid_lt x.2
theorem Tree.nodes_eq (t : Tree) : t.nodes = 1 + (t.kids.map Tree.nodes).sum := by
  rw [Tree.nodes]
  congr 2
  simp
theorem Tree.nodes_wt : ∀ t : Tree, t.nodes ≤ t.wt := Tree.ind fun t ih => by
  rw [Tree.nodes_eq, Tree.wt_eq]
  have : ∀ l : List Tree, (∀ x ∈ l, x.nodes ≤ x.wt) → (l.map Tree.nodes).sum ≤ (l.map Tree.wt).sum := by
    intro l
    induction l with
    | nil => simp
    | cons x l ih =>
      intro h
      have h0 := h x (by simp)
      have := ih fun y hy => h y (by simp [hy])
      simp only [List.map_cons, List.sum_cons]
      omega
  have := this t.kids ih
  omega

/-- Are fields empty that must be? -/
def Tree.fair (t : Tree) : Bool := if t.list then !t.hinted && t.hint.length == 0 && t.data.length == 0 else t.kids.length == 0 && (t.hinted || t.hint.length == 0)
def Tree.clean (t : Tree) : Bool := t.fair && t.kids.attach.all fun x => Tree.clean x.1
termination_by SizeOf.sizeOf t
decreasing_by exact Tree.kid_lt x.2
theorem Tree.clean_eq (t : Tree) : t.clean = (t.fair && t.kids.all Tree.clean) := by
  rw [Tree.clean]
  congr 1
  simp

def most (l : List Nat) : Nat := l.foldl max 0
def Tree.deep (t : Tree) : Nat := if t.list then most (t.kids.attach.map fun x => Tree.deep x.1) + 1 else 0
termination_by SizeOf.sizeOf t
decreasing_by exact Tree.kid_lt x.2
theorem Tree.deep_eq (t : Tree) : t.deep = if t.list then most (t.kids.map Tree.deep) + 1 else 0 := by
  rw [Tree.deep]
  congr 2
  simp
theorem most_snoc (l : List Nat) (k : Nat) : most (l ++ [k]) = max (most l) k := by simp [most]
theorem most_le {l : List Nat} {n : Nat} : most l ≤ n ↔ ∀ k ∈ l, k ≤ n := by
  have : ∀ (l : List Nat) (a : Nat), l.foldl max a ≤ n ↔ a ≤ n ∧ ∀ k ∈ l, k ≤ n := by
    intro l
    induction l with
    | nil => simp
    | cons x l ih =>
      intro a
      rw [List.foldl_cons, ih]
      simp only [List.mem_cons, forall_eq_or_imp, Nat.max_le, and_assoc]
  have := this l 0
  simpa [most] using this
theorem Tree.deep_wt : ∀ t : Tree, t.deep ≤ t.wt := Tree.ind fun t ih => by
  rw [Tree.deep_eq]
  split
  · have : most (t.kids.map Tree.deep) ≤ t.wt - 1 := most_le.2 fun k hk => by
      obtain ⟨x, hx, rfl⟩ := List.mem_map.1 hk
      have h1 := ih x hx
      have h2 := Tree.wt_kid hx
      omega
    have : 1 ≤ t.wt := by rw [Tree.wt_eq]; omega
    omega
  · omega

/-- A number's digits. -/
def dec (n : Nat) : List UInt8 := if n < 10 then [UInt8.ofNat (48 + n)] else dec (n / 10) ++ [UInt8.ofNat (48 + n % 10)]
theorem dec_len {n : Nat} : ∀ k, n < 10 ^ (k + 1) → (dec n).length ≤ k + 1 := by
  intro k
  induction k generalizing n with
  | zero =>
    intro h
    rw [dec, if_pos (by simpa using h)]
    simp
  | succ k ih =>
    intro h
    rw [dec]
    split
    · simp
    · rw [List.length_append, List.length_singleton]
      have := ih (n := n / 10) (by rw [Nat.div_lt_iff_lt_mul (by omega)]; rw [Nat.pow_succ] at h; omega)
      omega
theorem dec_pos (n : Nat) : 1 ≤ (dec n).length := by
  rw [dec]
  split <;> simp
def textB (b : List UInt8) : List UInt8 := dec b.length ++ [58] ++ b
theorem textB_len {b : List UInt8} {n : Nat} (h : b.length ≤ n) (hn : n < 100000000) : (textB b).length ≤ n + 9 := by
  have := dec_len (n := b.length) 7 (by simp only [Nat.reduceAdd, Nat.reducePow]; omega)
  simp only [textB, List.length_append, List.length_singleton]
  omega
def Tree.atomF (t : Tree) : List UInt8 := (if t.hinted then [91] ++ textB t.hint ++ [93] else []) ++ textB t.data
def Tree.form (t : Tree) : List UInt8 := if t.list then [40] ++ (t.kids.attach.map fun x => Tree.form x.1).flatten ++ [41] else t.atomF
termination_by SizeOf.sizeOf t
decreasing_by exact Tree.kid_lt x.2
theorem Tree.form_eq (t : Tree) : t.form = if t.list then [40] ++ (t.kids.map Tree.form).flatten ++ [41] else t.atomF := by
  rw [Tree.form]
  congr 3
  simp
theorem Tree.form_wt : ∀ t : Tree, t.wt ≤ 10000000 → t.form.length ≤ 21 * t.wt := Tree.ind fun t ih => by
  intro hw
  rw [Tree.form_eq]
  split
  · have : ∀ l : List Tree, (∀ x ∈ l, x.form.length ≤ 21 * x.wt) → (l.map Tree.form).flatten.length ≤ 21 * (l.map Tree.wt).sum := by
      intro l
      induction l with
      | nil => simp
      | cons x l ih =>
        intro h
        have h0 := h x (by simp)
        have := ih fun y hy => h y (by simp [hy])
        simp only [List.map_cons, List.sum_cons, List.flatten_cons, List.length_append]
        omega
    have := this t.kids fun x hx => ih x hx (by have := Tree.wt_kid hx; omega)
    rw [Tree.wt_eq]
    simp only [List.length_append, List.length_singleton]
    omega
  · have h1 := textB_len (b := t.hint) (Nat.le_refl _) (by have := t.wt_hint; omega)
    have h2 := textB_len (b := t.data) (Nat.le_refl _) (by have := t.wt_data; omega)
    rw [Tree.wt_eq]
    unfold Tree.atomF
    split <;> simp only [List.length_append, List.length_singleton, List.length_nil] <;> omega

/-- May a value be? -/
def Tree.may (t : Tree) : Bool := t.clean && decide (t.nodes ≤ 512) && decide (t.deep ≤ 16) && decide (t.form.length ≤ 4096)

noncomputable def Tree.same (t u : Tree) : Bool := @decide (t = u) (Classical.propDecidable _)
theorem Tree.same_true {t u : Tree} : t.same u = true ↔ t = u := by
  unfold Tree.same
  exact @decide_eq_true_iff _ (Classical.propDecidable _)
theorem Tree.same_refl (t : Tree) : t.same t = true := Tree.same_true.2 rfl
theorem Tree.same_false {t u : Tree} (h : t ≠ u) : t.same u = false := by
  cases hq : t.same u
  · rfl
  · exact absurd (Tree.same_true.1 hq) h
theorem Tree.ext_iff {t u : Tree} : t = u ↔ t.list = u.list ∧ t.hinted = u.hinted ∧ t.hint = u.hint ∧ t.data = u.data ∧ t.kids = u.kids := by
  cases t
  cases u
  simp [Tree.list, Tree.hinted, Tree.hint, Tree.data, Tree.kids]
end Go.Proofs.YtdakeodebgggfaaDoor

/- Trees as data; what is told of them. -/
namespace Go.Proofs.YtdakeodebgggfaaDoor
open Go.RowKit
set_option linter.unusedVariables false
set_option linter.unusedSimpArgs false
set_option maxRecDepth 100000
set_option maxHeartbeats 2000000
@[go_sem] def bytesD (l : List UInt8) : D := .sl l.length (l.map bD)
def treeC (t : Tree) : List D := [.v (.bool t.list), .v (.bool t.hinted), bytesD t.hint, bytesD t.data, .sl t.kids.length (t.kids.attach.map fun x => treeC x.1).flatten]
termination_by SizeOf.sizeOf t
decreasing_by exact Tree.kid_lt x.2
@[go_sem] def treeK (t : Tree) : List C := [.d (.v (.bool t.list)), .d (.v (.bool t.hinted)), .d (bytesD t.hint), .d (bytesD t.data), .d (.sl t.kids.length (t.kids.flatMap treeC))]
theorem treeC_eq (t : Tree) : treeC t = [.v (.bool t.list), .v (.bool t.hinted), bytesD t.hint, bytesD t.data, .sl t.kids.length (t.kids.flatMap treeC)] := by
  rw [treeC]
  simp [List.flatMap]
@[go_sem] theorem treeC_len (t : Tree) : (treeC t).length = 5 := by rw [treeC_eq]; rfl
theorem treeC_mk (l h : Bool) (x d : List UInt8) (k : List Tree) : treeC (.mk l h x d k) = [.v (.bool l), .v (.bool h), bytesD x, bytesD d, .sl k.length (k.flatMap treeC)] := treeC_eq _
@[go_sem] theorem treeC_t5 (t : Tree) : (treeC t).take 5 = treeC t := List.take_of_length_le (by rw [treeC_len]; exact Nat.le_refl _)
@[go_sem] theorem treeC_take (t : Tree) : ((treeC t).map C.d).take 5 = (treeC t).map C.d := List.take_of_length_le (by rw [List.length_map, treeC_len]; exact Nat.le_refl _)
@[go_sem] theorem treeC_flen (l : List Tree) : (l.flatMap treeC).length = l.length * 5 := flat_len treeC_len l
theorem sum_at {α : Type} {l : List α} {k : Nat} {x : α} (f : α → Nat) (h : l[k]? = some x) : ((l.take (k + 1)).map f).sum = ((l.take k).map f).sum + f x := by
  rw [List.take_add_one, h]
  simp
theorem sum_upto {α : Type} {l : List α} {k : Nat} (f : α → Nat) : ((l.take k).map f).sum ≤ (l.map f).sum := by
  induction l generalizing k with
  | nil => simp
  | cons x l ih =>
    cases k with
    | zero => simp
    | succ k =>
      have := ih (k := k)
      simp only [List.take_succ_cons, List.map_cons, List.sum_cons]
      omega
theorem nodes_m {G : Nat → Option (List D)} : ∀ t : Tree, ∀ cs : List D, treeC t = cs → t.wt ≤ 1000000000 → Spec Tryd.prog G 33 [.g cs] (.one (.c (.v (.int .i64 t.nodes)))) := Tree.ind fun t ih cs hcs hw => by
  subst hcs
  refine spec_of Tryd.func33 rfl rfl rfl (by kernel_rfl) rfl fun K => ?_
  rw [treeC_eq]
  (repeat' (first | refine sound_seq_k fun Kn hK => ?_ | (refine hK _ ?_; clear hK; clear Kn) | refine sound_region (by kernel_rfl) ?_ | refine sound_drawn (by kernel_rfl) (by kernel_rfl) ?_ | refine sound_block ?_ | refine sound_if ?_ | refine sound_ret ?_ | refine sound_skip ?_ | refine sound_exit ?_ | (refine br_intro (fun hb => ?_) (fun hb => ?_) <;> (try simp only [hb])) | simp (maxSteps := 10000000) (implicitDefEqProofs := false) only [go_sem, Nat.reduceEqDiff, Nat.reduceBEq, ↓reduceIte, Nat.reduceAdd, Nat.reduceMul, Nat.reduceSub, Nat.reduceLeDiff, Nat.reduceLT, reduceCtorEq, Int.reduceLE, Int.reduceLT, Int.reduceToNat, Int.reduceBEq]))
  refine sound_loopR (fun x : {k : Nat // k ≤ t.kids.length} => ⟨[(1, vP 1 0), (3, vI (1 + ((t.kids.take x.1).map Tree.nodes).sum : Nat)), (7, vI t.kids.length), (8, vI x.1)], [(1, some ⟨25, treeK t, true, false⟩)]⟩) (fun x => t.kids.length - x.1) ⟨0, by omega⟩ [] ?_ (fun ⟨k, hk⟩ => ?_)
  · simp (maxSteps := 10000000) (implicitDefEqProofs := false) only [go_sem, Nat.reduceEqDiff, Nat.reduceBEq, ↓reduceIte, Nat.reduceAdd, Nat.reduceMul, Nat.reduceSub, Nat.reduceLeDiff, Nat.reduceLT, reduceCtorEq, Int.reduceLE, Int.reduceLT, Int.reduceToNat, Int.reduceBEq]
    simp
  by_cases hlt : k < t.kids.length
  · obtain ⟨x, hx⟩ : ∃ x, t.kids[k]? = some x := ⟨_, List.getElem?_eq_getElem hlt⟩
    have hb : decide ((k : Int) < (t.kids.length : Int)) = true := by simpa using hlt
    have h1 := sum_at Tree.nodes hx
    have h2 := sum_upto (l := t.kids) (k := k + 1) Tree.nodes
    have h3 := t.nodes_wt
    have h4 := t.nodes_eq
    have h5 := t.wt_kids
    (repeat' (first | with_reducible refine sound_seq_k fun Kn hK => ?_ | with_reducible refine sound_region (by kernel_rfl) ?_ | with_reducible refine sound_drawn (by kernel_rfl) (by kernel_rfl) ?_ | with_reducible refine sound_block ?_ | with_reducible refine sound_if ?_ | with_reducible refine sound_ret ?_ | with_reducible refine sound_skip ?_ | with_reducible refine sound_exit ?_ | (with_reducible refine hK _ ?_; clear hK; clear Kn) | (clear hK; clear Kn; with_reducible refine hK _ ?_; clear hK; clear Kn) | (clear hK; clear Kn; clear hK; clear Kn; with_reducible refine hK _ ?_; clear hK; clear Kn) | (refine ⟨_, ih x (List.mem_of_getElem? hx) _ rfl (by have := Tree.wt_kid (List.mem_of_getElem? hx); omega), ?_⟩) | with_reducible refine ex_bytes ?_ | with_reducible refine loopU_step ?_ | with_reducible refine retO_ret ?_ ?_ | with_reducible refine retO_normal ?_ ?_ | with_reducible refine And.intro (show logOk _ _ = true by kernel_rfl) ?_ | simp (maxSteps := 10000000) (implicitDefEqProofs := false) (disch := omega) only [wrap_id, wrap8, max_r, max_l, min_r, min_l] | (with_reducible refine br_intro (fun hb => ?_) (fun hb => ?_) <;> (try simp only [hb])) | (with_reducible refine And.intro (by first | omega | (simp; done) | (simp; omega)) ?_) | simp (maxSteps := 10000000) (implicitDefEqProofs := false) only [go_sem, Nat.reduceEqDiff, Nat.reduceBEq, ↓reduceIte, Nat.reduceAdd, Nat.reduceMul, Nat.reduceSub, Nat.reduceLeDiff, Nat.reduceLT, reduceCtorEq, Int.reduceLE, Int.reduceLT, Int.reduceToNat, Int.reduceBEq, hb, flat_at treeC_len hx] | fail))
    refine ⟨[], ⟨k + 1, hlt⟩, ?_⟩
    (simp (maxSteps := 10000000) (implicitDefEqProofs := false) only [go_sem, Nat.reduceEqDiff, Nat.reduceBEq, ↓reduceIte, Nat.reduceAdd, Nat.reduceMul, Nat.reduceSub, Nat.reduceLeDiff, Nat.reduceLT, reduceCtorEq, Int.reduceLE, Int.reduceLT, Int.reduceToNat, Int.reduceBEq, hb]); (try simp (maxSteps := 10000000) (implicitDefEqProofs := false) (disch := omega) only [wrap_id, wrap8, max_r, max_l, min_r, min_l]); (try simp (maxSteps := 10000000) (implicitDefEqProofs := false) only [go_sem, Nat.reduceEqDiff, Nat.reduceBEq, ↓reduceIte, Nat.reduceAdd, Nat.reduceMul, Nat.reduceSub, Nat.reduceLeDiff, Nat.reduceLT, reduceCtorEq, Int.reduceLE, Int.reduceLT, Int.reduceToNat, Int.reduceBEq, hb])
    (simp only [SV.a.injEq, AV.c.injEq, C.d.injEq, D.v.injEq, Value.int.injEq, true_and, and_true, DR.one.injEq, DV.c.injEq, OutO.ret.injEq]; first | done | omega | (split <;> omega) | (simp; done) | (simp; omega))
  · have hb : decide ((k : Int) < (t.kids.length : Int)) = false := by simpa using hlt
    obtain rfl : k = t.kids.length := by omega
    (repeat' (first | with_reducible refine sound_seq_k fun Kn hK => ?_ | with_reducible refine sound_region (by kernel_rfl) ?_ | with_reducible refine sound_drawn (by kernel_rfl) (by kernel_rfl) ?_ | with_reducible refine sound_block ?_ | with_reducible refine sound_if ?_ | with_reducible refine sound_ret ?_ | with_reducible refine sound_skip ?_ | with_reducible refine sound_exit ?_ | (with_reducible refine hK _ ?_; clear hK; clear Kn) | (clear hK; clear Kn; with_reducible refine hK _ ?_; clear hK; clear Kn) | (clear hK; clear Kn; clear hK; clear Kn; with_reducible refine hK _ ?_; clear hK; clear Kn) | fail | with_reducible refine ex_bytes ?_ | with_reducible refine loopU_step ?_ | with_reducible refine retO_ret ?_ ?_ | with_reducible refine retO_normal ?_ ?_ | with_reducible refine And.intro (show logOk _ _ = true by kernel_rfl) ?_ | simp (maxSteps := 10000000) (implicitDefEqProofs := false) (disch := omega) only [wrap_id, wrap8, max_r, max_l, min_r, min_l] | (with_reducible refine br_intro (fun hb => ?_) (fun hb => ?_) <;> (try simp only [hb])) | (with_reducible refine And.intro (by first | omega | (simp; done) | (simp; omega)) ?_) | simp (maxSteps := 10000000) (implicitDefEqProofs := false) only [go_sem, Nat.reduceEqDiff, Nat.reduceBEq, ↓reduceIte, Nat.reduceAdd, Nat.reduceMul, Nat.reduceSub, Nat.reduceLeDiff, Nat.reduceLT, reduceCtorEq, Int.reduceLE, Int.reduceLT, Int.reduceToNat, Int.reduceBEq, hb, List.take_length] | fail))
    rw [t.nodes_eq]
theorem clean_m {G : Nat → Option (List D)} : ∀ t : Tree, ∀ cs : List D, treeC t = cs → t.wt ≤ 1000000000 → Spec Tryd.prog G 44 [.g cs] (.one (.c (.v (.bool t.clean)))) := Tree.ind fun t ih cs hcs hw => by
  subst hcs
  refine spec_of Tryd.func44 rfl rfl rfl (by kernel_rfl) rfl fun K => ?_
  rw [treeC_eq]
  refine sound_seq_k fun Kn hK => ?_
  refine sound_region (by kernel_rfl) ?_
  (simp (maxSteps := 10000000) (implicitDefEqProofs := false) only [go_sem, Nat.reduceEqDiff, Nat.reduceBEq, ↓reduceIte, Nat.reduceAdd, Nat.reduceMul, Nat.reduceSub, Nat.reduceLeDiff, Nat.reduceLT, reduceCtorEq, Int.reduceLE, Int.reduceLT, Int.reduceToNat, Int.reduceBEq, true_and]); (try simp (maxSteps := 10000000) (implicitDefEqProofs := false) (disch := omega) only [wrap_id, wrap8, max_r, max_l, min_r, min_l]); (try simp (maxSteps := 10000000) (implicitDefEqProofs := false) only [go_sem, Nat.reduceEqDiff, Nat.reduceBEq, ↓reduceIte, Nat.reduceAdd, Nat.reduceMul, Nat.reduceSub, Nat.reduceLeDiff, Nat.reduceLT, reduceCtorEq, Int.reduceLE, Int.reduceLT, Int.reduceToNat, Int.reduceBEq, true_and])
  refine hK _ ?_; clear hK; clear Kn
  refine sound_seq_k fun Kn hK => ?_
  have hL : t.fair = true → ∀ s, LessL (renK []) ⟨[(1, vP 1 0)], [(1, some ⟨25, treeK t, true, false⟩)]⟩ (Fr0 Tryd.f44.ntmps) s → Kn s := by
    intro hf s hl
    refine hK _ (sound_lessR _ _ hl ?_)
    clear hK hl
    (repeat' (first | with_reducible refine sound_seq_k fun Kn hK => ?_ | with_reducible refine sound_region (by kernel_rfl) ?_ | with_reducible refine sound_drawn (by kernel_rfl) (by kernel_rfl) ?_ | with_reducible refine sound_block ?_ | with_reducible refine sound_if ?_ | with_reducible refine sound_ret ?_ | with_reducible refine sound_skip ?_ | with_reducible refine sound_exit ?_ | (with_reducible refine hK _ ?_; clear hK; clear Kn) | (clear hK; clear Kn; with_reducible refine hK _ ?_; clear hK; clear Kn) | (clear hK; clear Kn; clear hK; clear Kn; with_reducible refine hK _ ?_; clear hK; clear Kn) | fail | with_reducible refine ex_bytes ?_ | with_reducible refine loopU_step ?_ | with_reducible refine retO_ret ?_ ?_ | with_reducible refine retO_normal ?_ ?_ | with_reducible refine And.intro (show logOk _ _ = true by kernel_rfl) ?_ | simp (maxSteps := 10000000) (implicitDefEqProofs := false) (disch := omega) only [wrap_id, wrap8, max_r, max_l, min_r, min_l] | (with_reducible refine br_intro (fun hb => ?_) (fun hb => ?_) <;> (try simp only [hb])) | (with_reducible refine And.intro (by first | omega | (simp; done) | (simp; omega)) ?_) | simp (maxSteps := 10000000) (implicitDefEqProofs := false) only [go_sem, Nat.reduceEqDiff, Nat.reduceBEq, ↓reduceIte, Nat.reduceAdd, Nat.reduceMul, Nat.reduceSub, Nat.reduceLeDiff, Nat.reduceLT, reduceCtorEq, Int.reduceLE, Int.reduceLT, Int.reduceToNat, Int.reduceBEq, true_and] | fail))
    refine sound_loopR (fun x : {k : Nat // k ≤ t.kids.length ∧ (t.kids.take k).all Tree.clean = true} => ⟨[(1, vP 1 0), (46, vI t.kids.length), (47, vI x.1)], [(1, some ⟨25, treeK t, true, false⟩)]⟩) (fun x => t.kids.length - x.1) ⟨0, by simp⟩ [] (by simp (maxSteps := 10000000) (implicitDefEqProofs := false) only [go_sem, Nat.reduceEqDiff, Nat.reduceBEq, ↓reduceIte, Nat.reduceAdd, Nat.reduceMul, Nat.reduceSub, Nat.reduceLeDiff, Nat.reduceLT, reduceCtorEq, Int.reduceLE, Int.reduceLT, Int.reduceToNat, Int.reduceBEq]; simp) (fun ⟨k, hk, hall⟩ => ?_)
    have h5 := t.wt_kids
    by_cases hlt : k < t.kids.length
    · obtain ⟨x, hx⟩ : ∃ x, t.kids[k]? = some x := ⟨_, List.getElem?_eq_getElem hlt⟩
      have hb : decide ((k : Int) < (t.kids.length : Int)) = true := by simpa using hlt
      have hm := List.mem_of_getElem? hx
      (repeat' (first | with_reducible refine sound_seq_k fun Kn hK => ?_ | with_reducible refine sound_region (by kernel_rfl) ?_ | with_reducible refine sound_drawn (by kernel_rfl) (by kernel_rfl) ?_ | with_reducible refine sound_block ?_ | with_reducible refine sound_if ?_ | with_reducible refine sound_ret ?_ | with_reducible refine sound_skip ?_ | with_reducible refine sound_exit ?_ | (with_reducible refine hK _ ?_; clear hK; clear Kn) | (clear hK; clear Kn; with_reducible refine hK _ ?_; clear hK; clear Kn) | (clear hK; clear Kn; clear hK; clear Kn; with_reducible refine hK _ ?_; clear hK; clear Kn) | (refine ⟨_, ih x hm _ rfl (by have := Tree.wt_kid hm; omega), ?_⟩) | with_reducible refine ex_bytes ?_ | with_reducible refine loopU_step ?_ | with_reducible refine retO_ret ?_ ?_ | with_reducible refine retO_normal ?_ ?_ | with_reducible refine And.intro (show logOk _ _ = true by kernel_rfl) ?_ | simp (maxSteps := 10000000) (implicitDefEqProofs := false) (disch := omega) only [wrap_id, wrap8, max_r, max_l, min_r, min_l] | (with_reducible refine br_intro (fun hb => ?_) (fun hb => ?_) <;> (try simp only [hb])) | (with_reducible refine And.intro (by first | omega | (simp; done) | (simp; omega)) ?_) | simp (maxSteps := 10000000) (implicitDefEqProofs := false) only [go_sem, Nat.reduceEqDiff, Nat.reduceBEq, ↓reduceIte, Nat.reduceAdd, Nat.reduceMul, Nat.reduceSub, Nat.reduceLeDiff, Nat.reduceLT, reduceCtorEq, Int.reduceLE, Int.reduceLT, Int.reduceToNat, Int.reduceBEq, hb, flat_at treeC_len hx] | fail))
      · refine ⟨[], ⟨k + 1, hlt, ?_⟩, ?_⟩
        · rw [List.take_add_one, hx]
          simp_all
        · (simp (maxSteps := 10000000) (implicitDefEqProofs := false) only [go_sem, Nat.reduceEqDiff, Nat.reduceBEq, ↓reduceIte, Nat.reduceAdd, Nat.reduceMul, Nat.reduceSub, Nat.reduceLeDiff, Nat.reduceLT, reduceCtorEq, Int.reduceLE, Int.reduceLT, Int.reduceToNat, Int.reduceBEq, true_and]); (try simp (maxSteps := 10000000) (implicitDefEqProofs := false) (disch := omega) only [wrap_id, wrap8, max_r, max_l, min_r, min_l]); (try simp (maxSteps := 10000000) (implicitDefEqProofs := false) only [go_sem, Nat.reduceEqDiff, Nat.reduceBEq, ↓reduceIte, Nat.reduceAdd, Nat.reduceMul, Nat.reduceSub, Nat.reduceLeDiff, Nat.reduceLT, reduceCtorEq, Int.reduceLE, Int.reduceLT, Int.reduceToNat, Int.reduceBEq, true_and])
          (simp only [SV.a.injEq, AV.c.injEq, C.d.injEq, D.v.injEq, Value.int.injEq, true_and, and_true, DR.one.injEq, DV.c.injEq, OutO.ret.injEq]; first | done | omega | (split <;> omega) | (simp; done) | (simp; omega))
      · rw [t.clean_eq, hf]
        have : t.kids.all Tree.clean = false := List.all_eq_false.2 ⟨x, hm, by simp_all⟩
        rw [this]
        rfl
    · have hb : decide ((k : Int) < (t.kids.length : Int)) = false := by simpa using hlt
      obtain rfl : k = t.kids.length := by omega
      (repeat' (first | with_reducible refine sound_seq_k fun Kn hK => ?_ | with_reducible refine sound_region (by kernel_rfl) ?_ | with_reducible refine sound_drawn (by kernel_rfl) (by kernel_rfl) ?_ | with_reducible refine sound_block ?_ | with_reducible refine sound_if ?_ | with_reducible refine sound_ret ?_ | with_reducible refine sound_skip ?_ | with_reducible refine sound_exit ?_ | (with_reducible refine hK _ ?_; clear hK; clear Kn) | (clear hK; clear Kn; with_reducible refine hK _ ?_; clear hK; clear Kn) | (clear hK; clear Kn; clear hK; clear Kn; with_reducible refine hK _ ?_; clear hK; clear Kn) | fail | with_reducible refine ex_bytes ?_ | with_reducible refine loopU_step ?_ | with_reducible refine retO_ret ?_ ?_ | with_reducible refine retO_normal ?_ ?_ | with_reducible refine And.intro (show logOk _ _ = true by kernel_rfl) ?_ | simp (maxSteps := 10000000) (implicitDefEqProofs := false) (disch := omega) only [wrap_id, wrap8, max_r, max_l, min_r, min_l] | (with_reducible refine br_intro (fun hb => ?_) (fun hb => ?_) <;> (try simp only [hb])) | (with_reducible refine And.intro (by first | omega | (simp; done) | (simp; omega)) ?_) | simp (maxSteps := 10000000) (implicitDefEqProofs := false) only [go_sem, Nat.reduceEqDiff, Nat.reduceBEq, ↓reduceIte, Nat.reduceAdd, Nat.reduceMul, Nat.reduceSub, Nat.reduceLeDiff, Nat.reduceLT, reduceCtorEq, Int.reduceLE, Int.reduceLT, Int.reduceToNat, Int.reduceBEq, hb] | fail))
      rw [List.take_length] at hall
      rw [t.clean_eq, hf, hall]
      rfl
  clear hK
  (repeat' (first | with_reducible refine sound_seq_k fun Kn hK => ?_ | with_reducible refine sound_region (by kernel_rfl) ?_ | with_reducible refine sound_drawn (by kernel_rfl) (by kernel_rfl) ?_ | with_reducible refine sound_block ?_ | with_reducible refine sound_if ?_ | with_reducible refine sound_ret ?_ | with_reducible refine sound_skip ?_ | with_reducible refine sound_exit ?_ | (with_reducible refine hK _ ?_; clear hK; clear Kn) | (clear hK; clear Kn; with_reducible refine hK _ ?_; clear hK; clear Kn) | (clear hK; clear Kn; clear hK; clear Kn; with_reducible refine hK _ ?_; clear hK; clear Kn) | (refine hL (by rw [Tree.fair]; simp only [*]; rfl) _ ?_) | with_reducible refine ex_bytes ?_ | with_reducible refine loopU_step ?_ | with_reducible refine retO_ret ?_ ?_ | with_reducible refine retO_normal ?_ ?_ | with_reducible refine And.intro (show logOk _ _ = true by kernel_rfl) ?_ | simp (maxSteps := 10000000) (implicitDefEqProofs := false) (disch := omega) only [wrap_id, wrap8, max_r, max_l, min_r, min_l] | (with_reducible refine br_intro (fun hb => ?_) (fun hb => ?_) <;> (try simp only [hb])) | (with_reducible refine And.intro (by first | omega | (simp; done) | (simp; omega)) ?_) | simp (maxSteps := 10000000) (implicitDefEqProofs := false) only [go_sem, Nat.reduceEqDiff, Nat.reduceBEq, ↓reduceIte, Nat.reduceAdd, Nat.reduceMul, Nat.reduceSub, Nat.reduceLeDiff, Nat.reduceLT, reduceCtorEq, Int.reduceLE, Int.reduceLT, Int.reduceToNat, Int.reduceBEq, gt_iff_lt, pos_beq] | fail))
  all_goals (clear ih; first | (simp only [*]; done) | (rw [t.clean_eq, Tree.fair]; simp only [*]; rfl) | (rw [t.clean_eq, Tree.fair]; simp only [*]; simp; done))
end Go.Proofs.YtdakeodebgggfaaDoor

/- Numbers in digits, and texts. -/
namespace Go.Proofs.YtdakeodebgggfaaDoor
open Go.RowKit
set_option linter.unusedVariables false
set_option linter.unusedSimpArgs false
set_option maxRecDepth 100000
set_option maxHeartbeats 2000000
def digit (n : Nat) : UInt8 := UInt8.ofNat (48 + n % 10)
theorem digit_D (n : Nat) : bD (digit n) = .v (.int .u8 (48 + ((n % 10 : Nat) : Int))) := by
  unfold bD digit
  rw [UInt8.toNat_ofNat']
  congr 2
  omega
theorem dec_small {n : Nat} (h : n < 10) : dec n = [digit n] := by
  rw [dec, if_pos h, digit, Nat.mod_eq_of_lt h]
theorem dec_big {n : Nat} (h : ¬ n < 10) : dec n = dec (n / 10) ++ [digit n] := by
  rw [dec, if_neg h, digit]
theorem str_app (x y : List UInt8) : (⟨x.toArray⟩ : ByteArray) ++ ⟨y.toArray⟩ = ⟨(x ++ y).toArray⟩ := by
  ext1
  simp [ByteArray.data_append]
theorem str_size (x : List UInt8) : (⟨x.toArray⟩ : ByteArray).size = x.length := by simp [ByteArray.size]
theorem dec_m {G : Nat → Option (List D)} : ∀ n : Nat, n ≤ 1000000000 → Spec Tryd.prog G 66 [.c (.v (.int .i64 n))] (.one (.c (.v (.string ⟨(dec n).toArray⟩)))) := by
  intro n
  induction n using Nat.strongRecOn with
  | _ n ih =>
  intro hn
  refine spec_of Tryd.func66 rfl rfl rfl (by kernel_rfl) rfl fun K => ?_
  by_cases h10 : n < 10
  · have d1 : decide ((n : Int) < 10) = true := decide_eq_true (by omega)
    have d2 : n % 10 = n := Nat.mod_eq_of_lt h10
    (repeat' (first | with_reducible refine sound_seq_k fun Kn hK => ?_ | with_reducible refine sound_region (by kernel_rfl) ?_ | with_reducible refine sound_drawn (by kernel_rfl) (by kernel_rfl) ?_ | with_reducible refine sound_block ?_ | with_reducible refine sound_if ?_ | with_reducible refine sound_ret ?_ | with_reducible refine sound_skip ?_ | with_reducible refine sound_exit ?_ | (with_reducible refine hK _ ?_; clear hK; clear Kn) | (clear hK; clear Kn; with_reducible refine hK _ ?_; clear hK; clear Kn) | (clear hK; clear Kn; clear hK; clear Kn; with_reducible refine hK _ ?_; clear hK; clear Kn) | (refine ⟨[digit n], ?_⟩) | with_reducible refine ex_bytes ?_ | with_reducible refine loopU_step ?_ | with_reducible refine retO_ret ?_ ?_ | with_reducible refine retO_normal ?_ ?_ | with_reducible refine And.intro (show logOk _ _ = true by kernel_rfl) ?_ | simp (maxSteps := 10000000) (implicitDefEqProofs := false) (disch := omega) only [wrap_id, wrap8, max_r, max_l, min_r, min_l] | (with_reducible refine br_intro (fun hb => ?_) (fun hb => ?_) <;> (try simp only [hb])) | (with_reducible refine And.intro (by first | omega | (simp; done) | (simp; omega)) ?_) | simp (maxSteps := 10000000) (implicitDefEqProofs := false) only [go_sem, Nat.reduceEqDiff, Nat.reduceBEq, ↓reduceIte, Nat.reduceAdd, Nat.reduceMul, Nat.reduceSub, Nat.reduceLeDiff, Nat.reduceLT, reduceCtorEq, Int.reduceLE, Int.reduceLT, Int.reduceToNat, Int.reduceBEq, d1, digit_D, d2] | fail))
    rw [dec_small h10]
  · have d1 : decide ((n : Int) < 10) = false := decide_eq_false (by omega)
    have d2 : (n : Int).tdiv 10 = ((n / 10 : Nat) : Int) := by rw [Int.tdiv_eq_ediv_of_nonneg (by omega)]; omega
    have d3 : (n : Int).tmod 10 = ((n % 10 : Nat) : Int) := by rw [Int.tmod_eq_emod_of_nonneg (by omega)]; omega
    have hl := dec_len (n := n / 10) 9 (by simp only [Nat.reduceAdd, Nat.reducePow]; omega)
    (repeat' (first | with_reducible refine sound_seq_k fun Kn hK => ?_ | with_reducible refine sound_region (by kernel_rfl) ?_ | with_reducible refine sound_drawn (by kernel_rfl) (by kernel_rfl) ?_ | with_reducible refine sound_block ?_ | with_reducible refine sound_if ?_ | with_reducible refine sound_ret ?_ | with_reducible refine sound_skip ?_ | with_reducible refine sound_exit ?_ | (with_reducible refine hK _ ?_; clear hK; clear Kn) | (clear hK; clear Kn; with_reducible refine hK _ ?_; clear hK; clear Kn) | (clear hK; clear Kn; clear hK; clear Kn; with_reducible refine hK _ ?_; clear hK; clear Kn) | (refine ⟨_, ih (n / 10) (by omega) (by omega), ?_⟩) | (refine ⟨[digit n], ?_⟩) | with_reducible refine ex_bytes ?_ | with_reducible refine loopU_step ?_ | with_reducible refine retO_ret ?_ ?_ | with_reducible refine retO_normal ?_ ?_ | with_reducible refine And.intro (show logOk _ _ = true by kernel_rfl) ?_ | simp (maxSteps := 10000000) (implicitDefEqProofs := false) (disch := omega) only [wrap_id, wrap8, max_r, max_l, min_r, min_l] | (with_reducible refine br_intro (fun hb => ?_) (fun hb => ?_) <;> (try simp only [hb])) | (with_reducible refine And.intro (by first | omega | (simp; done) | (simp; omega)) ?_) | simp (maxSteps := 10000000) (implicitDefEqProofs := false) only [go_sem, Nat.reduceEqDiff, Nat.reduceBEq, ↓reduceIte, Nat.reduceAdd, Nat.reduceMul, Nat.reduceSub, Nat.reduceLeDiff, Nat.reduceLT, reduceCtorEq, Int.reduceLE, Int.reduceLT, Int.reduceToNat, Int.reduceBEq, d1, d2, d3, digit_D] | fail))
    rw [dec_big h10, str_app]
end Go.Proofs.YtdakeodebgggfaaDoor

/- Rows cloned, held against others; atoms and lists. -/
namespace Go.Proofs.YtdakeodebgggfaaDoor
open Go.RowKit
set_option linter.unusedVariables false
set_option linter.unusedSimpArgs false
set_option maxRecDepth 100000
set_option maxHeartbeats 2000000
theorem bclone_m {G : Nat → Option (List D)} (l : List UInt8) (hl : l.length ≤ 1000000000000) : Spec Tryd.prog G 39 [.c (bytesD l)] (.one (.c (bytesD l))) := by
  cases l with
  | nil =>
    refine spec_empty (pre := []) (post := []) rfl fun A c => ?_
    refine spec_of Tryd.func39 rfl rfl rfl (by kernel_rfl) rfl fun K => ?_
    cases A <;> (repeat' (first | with_reducible refine sound_seq_k fun Kn hK => ?_ | with_reducible refine sound_region (by kernel_rfl) ?_ | with_reducible refine sound_drawn (by kernel_rfl) (by kernel_rfl) ?_ | with_reducible refine sound_block ?_ | with_reducible refine sound_if ?_ | with_reducible refine sound_ret ?_ | with_reducible refine sound_skip ?_ | with_reducible refine sound_exit ?_ | (with_reducible refine hK _ ?_; clear hK; clear Kn) | (clear hK; clear Kn; with_reducible refine hK _ ?_; clear hK; clear Kn) | (clear hK; clear Kn; clear hK; clear Kn; with_reducible refine hK _ ?_; clear hK; clear Kn) | fail | with_reducible refine ex_bytes ?_ | with_reducible refine loopU_step ?_ | with_reducible refine retO_ret ?_ ?_ | with_reducible refine retO_normal ?_ ?_ | with_reducible refine And.intro (show logOk _ _ = true by kernel_rfl) ?_ | simp (maxSteps := 10000000) (implicitDefEqProofs := false) (disch := omega) only [wrap_id, wrap8, max_r, max_l, min_r, min_l] | (with_reducible refine br_intro (fun hb => ?_) (fun hb => ?_) <;> (try simp only [hb])) | (with_reducible refine And.intro (by first | omega | (simp; done) | (simp; omega)) ?_) | simp (maxSteps := 10000000) (implicitDefEqProofs := false) only [go_sem, Nat.reduceEqDiff, Nat.reduceBEq, ↓reduceIte, Nat.reduceAdd, Nat.reduceMul, Nat.reduceSub, Nat.reduceLeDiff, Nat.reduceLT, reduceCtorEq, Int.reduceLE, Int.reduceLT, Int.reduceToNat, Int.reduceBEq, true_and] | fail))
  | cons x l =>
    generalize hn : x :: l = k at *
    have h0 : 0 < k.length := by rw [← hn]; simp
    refine spec_of Tryd.func39 rfl rfl rfl (by kernel_rfl) rfl fun K => ?_
    (repeat' (first | with_reducible refine sound_seq_k fun Kn hK => ?_ | with_reducible refine sound_region (by kernel_rfl) ?_ | with_reducible refine sound_drawn (by kernel_rfl) (by kernel_rfl) ?_ | with_reducible refine sound_block ?_ | with_reducible refine sound_if ?_ | with_reducible refine sound_ret ?_ | with_reducible refine sound_skip ?_ | with_reducible refine sound_exit ?_ | (with_reducible refine hK _ ?_; clear hK; clear Kn) | (clear hK; clear Kn; with_reducible refine hK _ ?_; clear hK; clear Kn) | (clear hK; clear Kn; clear hK; clear Kn; with_reducible refine hK _ ?_; clear hK; clear Kn) | fail | with_reducible refine ex_bytes ?_ | with_reducible refine loopU_step ?_ | with_reducible refine retO_ret ?_ ?_ | with_reducible refine retO_normal ?_ ?_ | with_reducible refine And.intro (show logOk _ _ = true by kernel_rfl) ?_ | simp (maxSteps := 10000000) (implicitDefEqProofs := false) (disch := omega) only [wrap_id, wrap8, max_r, max_l, min_r, min_l] | (with_reducible refine br_intro (fun hb => ?_) (fun hb => ?_) <;> (try simp only [hb])) | (with_reducible refine And.intro (by first | omega | (simp; done) | (simp; omega)) ?_) | simp (maxSteps := 10000000) (implicitDefEqProofs := false) only [go_sem, Nat.reduceEqDiff, Nat.reduceBEq, ↓reduceIte, Nat.reduceAdd, Nat.reduceMul, Nat.reduceSub, Nat.reduceLeDiff, Nat.reduceLT, reduceCtorEq, Int.reduceLE, Int.reduceLT, Int.reduceToNat, Int.reduceBEq, List.length_map] | fail))
theorem sclone_m {G : Nat → Option (List D)} (l : List Tree) (hl : l.length ≤ 100000000) : Spec Tryd.prog G 53 [.c (.sl l.length (l.flatMap treeC))] (.one (.c (.sl l.length (l.flatMap treeC)))) := by
  cases l with
  | nil =>
    refine spec_empty (pre := []) (post := []) rfl fun A c => ?_
    refine spec_of Tryd.func53 rfl rfl rfl (by kernel_rfl) rfl fun K => ?_
    cases A <;> (repeat' (first | with_reducible refine sound_seq_k fun Kn hK => ?_ | with_reducible refine sound_region (by kernel_rfl) ?_ | with_reducible refine sound_drawn (by kernel_rfl) (by kernel_rfl) ?_ | with_reducible refine sound_block ?_ | with_reducible refine sound_if ?_ | with_reducible refine sound_ret ?_ | with_reducible refine sound_skip ?_ | with_reducible refine sound_exit ?_ | (with_reducible refine hK _ ?_; clear hK; clear Kn) | (clear hK; clear Kn; with_reducible refine hK _ ?_; clear hK; clear Kn) | (clear hK; clear Kn; clear hK; clear Kn; with_reducible refine hK _ ?_; clear hK; clear Kn) | fail | with_reducible refine ex_bytes ?_ | with_reducible refine loopU_step ?_ | with_reducible refine retO_ret ?_ ?_ | with_reducible refine retO_normal ?_ ?_ | with_reducible refine And.intro (show logOk _ _ = true by kernel_rfl) ?_ | simp (maxSteps := 10000000) (implicitDefEqProofs := false) (disch := omega) only [wrap_id, wrap8, max_r, max_l, min_r, min_l] | (with_reducible refine br_intro (fun hb => ?_) (fun hb => ?_) <;> (try simp only [hb])) | (with_reducible refine And.intro (by first | omega | (simp; done) | (simp; omega)) ?_) | simp (maxSteps := 10000000) (implicitDefEqProofs := false) only [go_sem, Nat.reduceEqDiff, Nat.reduceBEq, ↓reduceIte, Nat.reduceAdd, Nat.reduceMul, Nat.reduceSub, Nat.reduceLeDiff, Nat.reduceLT, reduceCtorEq, Int.reduceLE, Int.reduceLT, Int.reduceToNat, Int.reduceBEq, true_and, List.flatMap_nil] | fail))
  | cons x l =>
    generalize hn : x :: l = k at *
    have h0 : 0 < k.length := by rw [← hn]; simp
    refine spec_of Tryd.func53 rfl rfl rfl (by kernel_rfl) rfl fun K => ?_
    (repeat' (first | with_reducible refine sound_seq_k fun Kn hK => ?_ | with_reducible refine sound_region (by kernel_rfl) ?_ | with_reducible refine sound_drawn (by kernel_rfl) (by kernel_rfl) ?_ | with_reducible refine sound_block ?_ | with_reducible refine sound_if ?_ | with_reducible refine sound_ret ?_ | with_reducible refine sound_skip ?_ | with_reducible refine sound_exit ?_ | (with_reducible refine hK _ ?_; clear hK; clear Kn) | (clear hK; clear Kn; with_reducible refine hK _ ?_; clear hK; clear Kn) | (clear hK; clear Kn; clear hK; clear Kn; with_reducible refine hK _ ?_; clear hK; clear Kn) | fail | with_reducible refine ex_bytes ?_ | with_reducible refine loopU_step ?_ | with_reducible refine retO_ret ?_ ?_ | with_reducible refine retO_normal ?_ ?_ | with_reducible refine And.intro (show logOk _ _ = true by kernel_rfl) ?_ | simp (maxSteps := 10000000) (implicitDefEqProofs := false) (disch := omega) only [wrap_id, wrap8, max_r, max_l, min_r, min_l] | (with_reducible refine br_intro (fun hb => ?_) (fun hb => ?_) <;> (try simp only [hb])) | (with_reducible refine And.intro (by first | omega | (simp; done) | (simp; omega)) ?_) | simp (maxSteps := 10000000) (implicitDefEqProofs := false) only [go_sem, Nat.reduceEqDiff, Nat.reduceBEq, ↓reduceIte, Nat.reduceAdd, Nat.reduceMul, Nat.reduceSub, Nat.reduceLeDiff, Nat.reduceLT, reduceCtorEq, Int.reduceLE, Int.reduceLT, Int.reduceToNat, Int.reduceBEq, List.length_map] | fail))
theorem equal_m {G : Nat → Option (List D)} (x y : List UInt8) : Spec Tryd.prog G 51 [.c (bytesD x), .c (bytesD y)] (.one (.c (.v (.bool (x == y))))) := by
  refine spec_of Tryd.func51 rfl rfl rfl (by kernel_rfl) rfl fun K => ?_
  (repeat' (first | with_reducible refine sound_seq_k fun Kn hK => ?_ | with_reducible refine sound_region (by kernel_rfl) ?_ | with_reducible refine sound_drawn (by kernel_rfl) (by kernel_rfl) ?_ | with_reducible refine sound_block ?_ | with_reducible refine sound_if ?_ | with_reducible refine sound_ret ?_ | with_reducible refine sound_skip ?_ | with_reducible refine sound_exit ?_ | (with_reducible refine hK _ ?_; clear hK; clear Kn) | (clear hK; clear Kn; with_reducible refine hK _ ?_; clear hK; clear Kn) | (clear hK; clear Kn; clear hK; clear Kn; with_reducible refine hK _ ?_; clear hK; clear Kn) | fail | with_reducible refine ex_bytes ?_ | with_reducible refine loopU_step ?_ | with_reducible refine retO_ret ?_ ?_ | with_reducible refine retO_normal ?_ ?_ | with_reducible refine And.intro (show logOk _ _ = true by kernel_rfl) ?_ | simp (maxSteps := 10000000) (implicitDefEqProofs := false) (disch := omega) only [wrap_id, wrap8, max_r, max_l, min_r, min_l] | (with_reducible refine br_intro (fun hb => ?_) (fun hb => ?_) <;> (try simp only [hb])) | (with_reducible refine And.intro (by first | omega | (simp; done) | (simp; omega)) ?_) | simp (maxSteps := 10000000) (implicitDefEqProofs := false) only [go_sem, Nat.reduceEqDiff, Nat.reduceBEq, ↓reduceIte, Nat.reduceAdd, Nat.reduceMul, Nat.reduceSub, Nat.reduceLeDiff, Nat.reduceLT, reduceCtorEq, Int.reduceLE, Int.reduceLT, Int.reduceToNat, Int.reduceBEq, true_and] | fail))
theorem atom_m {G : Nat → Option (List D)} (l : List UInt8) (hl : l.length ≤ 1000000000000) : Spec Tryd.prog G 43 [.c (.v (.string ⟨l.toArray⟩))] (.one (.g (treeC (.mk false false [] l [])))) := by
  refine spec_of Tryd.func43 rfl rfl rfl (by kernel_rfl) rfl fun K => ?_
  rw [treeC_eq]
  (repeat' (first | with_reducible refine sound_seq_k fun Kn hK => ?_ | with_reducible refine sound_region (by kernel_rfl) ?_ | with_reducible refine sound_drawn (by kernel_rfl) (by kernel_rfl) ?_ | with_reducible refine sound_block ?_ | with_reducible refine sound_if ?_ | with_reducible refine sound_ret ?_ | with_reducible refine sound_skip ?_ | with_reducible refine sound_exit ?_ | (with_reducible refine hK _ ?_; clear hK; clear Kn) | (clear hK; clear Kn; with_reducible refine hK _ ?_; clear hK; clear Kn) | (clear hK; clear Kn; clear hK; clear Kn; with_reducible refine hK _ ?_; clear hK; clear Kn) | fail | with_reducible refine ex_bytes ?_ | with_reducible refine loopU_step ?_ | with_reducible refine retO_ret ?_ ?_ | with_reducible refine retO_normal ?_ ?_ | with_reducible refine And.intro (show logOk _ _ = true by kernel_rfl) ?_ | simp (maxSteps := 10000000) (implicitDefEqProofs := false) (disch := omega) only [wrap_id, wrap8, max_r, max_l, min_r, min_l] | (with_reducible refine br_intro (fun hb => ?_) (fun hb => ?_) <;> (try simp only [hb])) | (with_reducible refine And.intro (by first | omega | (simp; done) | (simp; omega)) ?_) | simp (maxSteps := 10000000) (implicitDefEqProofs := false) only [go_sem, Nat.reduceEqDiff, Nat.reduceBEq, ↓reduceIte, Nat.reduceAdd, Nat.reduceMul, Nat.reduceSub, Nat.reduceLeDiff, Nat.reduceLT, reduceCtorEq, Int.reduceLE, Int.reduceLT, Int.reduceToNat, Int.reduceBEq, str_size] | fail))
  rfl
theorem atomref_m {G : Nat → Option (List D)} (l : List UInt8) (hl : l.length ≤ 1000000000000) : Spec Tryd.prog G 35 [.c (.v (.string ⟨l.toArray⟩))] (.one (.g (treeC (.mk false false [] l [])))) := by
  refine spec_of Tryd.func35 rfl rfl rfl (by kernel_rfl) rfl fun K => ?_
  rw [treeC_eq]
  (repeat' (first | with_reducible refine sound_seq_k fun Kn hK => ?_ | with_reducible refine sound_region (by kernel_rfl) ?_ | with_reducible refine sound_drawn (by kernel_rfl) (by kernel_rfl) ?_ | with_reducible refine sound_block ?_ | with_reducible refine sound_if ?_ | with_reducible refine sound_ret ?_ | with_reducible refine sound_skip ?_ | with_reducible refine sound_exit ?_ | (with_reducible refine hK _ ?_; clear hK; clear Kn) | (clear hK; clear Kn; with_reducible refine hK _ ?_; clear hK; clear Kn) | (clear hK; clear Kn; clear hK; clear Kn; with_reducible refine hK _ ?_; clear hK; clear Kn) | fail | with_reducible refine ex_bytes ?_ | with_reducible refine loopU_step ?_ | with_reducible refine retO_ret ?_ ?_ | with_reducible refine retO_normal ?_ ?_ | with_reducible refine And.intro (show logOk _ _ = true by kernel_rfl) ?_ | simp (maxSteps := 10000000) (implicitDefEqProofs := false) (disch := omega) only [wrap_id, wrap8, max_r, max_l, min_r, min_l] | (with_reducible refine br_intro (fun hb => ?_) (fun hb => ?_) <;> (try simp only [hb])) | (with_reducible refine And.intro (by first | omega | (simp; done) | (simp; omega)) ?_) | simp (maxSteps := 10000000) (implicitDefEqProofs := false) only [go_sem, Nat.reduceEqDiff, Nat.reduceBEq, ↓reduceIte, Nat.reduceAdd, Nat.reduceMul, Nat.reduceSub, Nat.reduceLeDiff, Nat.reduceLT, reduceCtorEq, Int.reduceLE, Int.reduceLT, Int.reduceToNat, Int.reduceBEq, str_size] | fail))
  rfl
theorem list_m {G : Nat → Option (List D)} (l : List Tree) (hl : l.length ≤ 100000000) : Spec Tryd.prog G 42 [.c (.sl l.length (l.flatMap treeC))] (.one (.g (treeC (.mk true false [] [] l)))) := by
  refine spec_of Tryd.func42 rfl rfl rfl (by kernel_rfl) rfl fun K => ?_
  rw [treeC_eq]
  (repeat' (first | with_reducible refine sound_seq_k fun Kn hK => ?_ | with_reducible refine sound_region (by kernel_rfl) ?_ | with_reducible refine sound_drawn (by kernel_rfl) (by kernel_rfl) ?_ | with_reducible refine sound_block ?_ | with_reducible refine sound_if ?_ | with_reducible refine sound_ret ?_ | with_reducible refine sound_skip ?_ | with_reducible refine sound_exit ?_ | (with_reducible refine hK _ ?_; clear hK; clear Kn) | (clear hK; clear Kn; with_reducible refine hK _ ?_; clear hK; clear Kn) | (clear hK; clear Kn; clear hK; clear Kn; with_reducible refine hK _ ?_; clear hK; clear Kn) | (refine ⟨_, sclone_m l hl, ?_⟩) | with_reducible refine ex_bytes ?_ | with_reducible refine loopU_step ?_ | with_reducible refine retO_ret ?_ ?_ | with_reducible refine retO_normal ?_ ?_ | with_reducible refine And.intro (show logOk _ _ = true by kernel_rfl) ?_ | simp (maxSteps := 10000000) (implicitDefEqProofs := false) (disch := omega) only [wrap_id, wrap8, max_r, max_l, min_r, min_l] | (with_reducible refine br_intro (fun hb => ?_) (fun hb => ?_) <;> (try simp only [hb])) | (with_reducible refine And.intro (by first | omega | (simp; done) | (simp; omega)) ?_) | simp (maxSteps := 10000000) (implicitDefEqProofs := false) only [go_sem, Nat.reduceEqDiff, Nat.reduceBEq, ↓reduceIte, Nat.reduceAdd, Nat.reduceMul, Nat.reduceSub, Nat.reduceLeDiff, Nat.reduceLT, reduceCtorEq, Int.reduceLE, Int.reduceLT, Int.reduceToNat, Int.reduceBEq, true_and] | fail))
  rfl
def isB (t : Tree) (s : List UInt8) : Bool := !t.list && !t.hinted && (t.data == s)
theorem isref_m {G : Nat → Option (List D)} (t : Tree) {cs : List D} (hcs : treeC t = cs) (s : List UInt8) : Spec Tryd.prog G 47 [.g cs, .c (.v (.string ⟨s.toArray⟩))] (.one (.c (.v (.bool (isB t s))))) := by
  subst hcs
  refine spec_of Tryd.func47 rfl rfl rfl (by kernel_rfl) rfl fun K => ?_
  rw [treeC_eq]
  (repeat' (first | with_reducible refine sound_seq_k fun Kn hK => ?_ | with_reducible refine sound_region (by kernel_rfl) ?_ | with_reducible refine sound_drawn (by kernel_rfl) (by kernel_rfl) ?_ | with_reducible refine sound_block ?_ | with_reducible refine sound_if ?_ | with_reducible refine sound_ret ?_ | with_reducible refine sound_skip ?_ | with_reducible refine sound_exit ?_ | (with_reducible refine hK _ ?_; clear hK; clear Kn) | (clear hK; clear Kn; with_reducible refine hK _ ?_; clear hK; clear Kn) | (clear hK; clear Kn; clear hK; clear Kn; with_reducible refine hK _ ?_; clear hK; clear Kn) | fail | with_reducible refine ex_bytes ?_ | with_reducible refine loopU_step ?_ | with_reducible refine retO_ret ?_ ?_ | with_reducible refine retO_normal ?_ ?_ | with_reducible refine And.intro (show logOk _ _ = true by kernel_rfl) ?_ | simp (maxSteps := 10000000) (implicitDefEqProofs := false) (disch := omega) only [wrap_id, wrap8, max_r, max_l, min_r, min_l] | (with_reducible refine br_intro (fun hb => ?_) (fun hb => ?_) <;> (try simp only [hb])) | (with_reducible refine And.intro (by first | omega | (simp; done) | (simp; omega)) ?_) | simp (maxSteps := 10000000) (implicitDefEqProofs := false) only [go_sem, Nat.reduceEqDiff, Nat.reduceBEq, ↓reduceIte, Nat.reduceAdd, Nat.reduceMul, Nat.reduceSub, Nat.reduceLeDiff, Nat.reduceLT, reduceCtorEq, Int.reduceLE, Int.reduceLT, Int.reduceToNat, Int.reduceBEq, true_and] | fail))
  all_goals (unfold isB; simp only [*]; first | rfl | simp)
def headB (t : Tree) (s : List UInt8) : Bool := t.list && (match t.kids with
  | [] => false
  | x :: _ => isB x s)
theorem headref_m {G : Nat → Option (List D)} (t : Tree) {cs : List D} (hcs : treeC t = cs) (s : List UInt8) : Spec Tryd.prog G 36 [.g cs, .c (.v (.string ⟨s.toArray⟩))] (.one (.c (.v (.bool (headB t s))))) := by
  subst hcs
  refine spec_of Tryd.func36 rfl rfl rfl (by kernel_rfl) rfl fun K => ?_
  rw [treeC_eq]
  cases hk : t.kids with
  | nil =>
    have h0 : decide ((0 : Int) < ((0 : Nat) : Int)) = false := rfl
    (repeat' (first | with_reducible refine sound_seq_k fun Kn hK => ?_ | with_reducible refine sound_region (by kernel_rfl) ?_ | with_reducible refine sound_drawn (by kernel_rfl) (by kernel_rfl) ?_ | with_reducible refine sound_block ?_ | with_reducible refine sound_if ?_ | with_reducible refine sound_ret ?_ | with_reducible refine sound_skip ?_ | with_reducible refine sound_exit ?_ | (with_reducible refine hK _ ?_; clear hK; clear Kn) | (clear hK; clear Kn; with_reducible refine hK _ ?_; clear hK; clear Kn) | (clear hK; clear Kn; clear hK; clear Kn; with_reducible refine hK _ ?_; clear hK; clear Kn) | fail | with_reducible refine ex_bytes ?_ | with_reducible refine loopU_step ?_ | with_reducible refine retO_ret ?_ ?_ | with_reducible refine retO_normal ?_ ?_ | with_reducible refine And.intro (show logOk _ _ = true by kernel_rfl) ?_ | simp (maxSteps := 10000000) (implicitDefEqProofs := false) (disch := omega) only [wrap_id, wrap8, max_r, max_l, min_r, min_l] | (with_reducible refine br_intro (fun hb => ?_) (fun hb => ?_) <;> (try simp only [hb])) | (with_reducible refine And.intro (by first | omega | (simp; done) | (simp; omega)) ?_) | simp (maxSteps := 10000000) (implicitDefEqProofs := false) only [go_sem, Nat.reduceEqDiff, Nat.reduceBEq, ↓reduceIte, Nat.reduceAdd, Nat.reduceMul, Nat.reduceSub, Nat.reduceLeDiff, Nat.reduceLT, reduceCtorEq, Int.reduceLE, Int.reduceLT, Int.reduceToNat, Int.reduceBEq, gt_iff_lt, h0] | fail))
    all_goals (unfold headB; simp only [*]; rfl)
  | cons x l =>
    have h0 : decide ((0 : Int) < ((l.length + 1 : Nat) : Int)) = true := by simp
    have h1 : ((x :: l).flatMap treeC).take 5 = treeC x := flat_at treeC_len (k := 0) rfl
    (repeat' (first | with_reducible refine sound_seq_k fun Kn hK => ?_ | with_reducible refine sound_region (by kernel_rfl) ?_ | with_reducible refine sound_drawn (by kernel_rfl) (by kernel_rfl) ?_ | with_reducible refine sound_block ?_ | with_reducible refine sound_if ?_ | with_reducible refine sound_ret ?_ | with_reducible refine sound_skip ?_ | with_reducible refine sound_exit ?_ | (with_reducible refine hK _ ?_; clear hK; clear Kn) | (clear hK; clear Kn; with_reducible refine hK _ ?_; clear hK; clear Kn) | (clear hK; clear Kn; clear hK; clear Kn; with_reducible refine hK _ ?_; clear hK; clear Kn) | (refine ⟨_, isref_m x (by first | rfl | (rw [treeC_eq]; first | rfl | (simp only [go_sem, *]; done))) s, ?_⟩) | with_reducible refine ex_bytes ?_ | with_reducible refine loopU_step ?_ | with_reducible refine retO_ret ?_ ?_ | with_reducible refine retO_normal ?_ ?_ | with_reducible refine And.intro (show logOk _ _ = true by kernel_rfl) ?_ | simp (maxSteps := 10000000) (implicitDefEqProofs := false) (disch := omega) only [wrap_id, wrap8, max_r, max_l, min_r, min_l] | (with_reducible refine br_intro (fun hb => ?_) (fun hb => ?_) <;> (try simp only [hb])) | (with_reducible refine And.intro (by first | omega | (simp; done) | (simp; omega)) ?_) | simp (maxSteps := 10000000) (implicitDefEqProofs := false) only [go_sem, Nat.reduceEqDiff, Nat.reduceBEq, ↓reduceIte, Nat.reduceAdd, Nat.reduceMul, Nat.reduceSub, Nat.reduceLeDiff, Nat.reduceLT, reduceCtorEq, Int.reduceLE, Int.reduceLT, Int.reduceToNat, Int.reduceBEq, gt_iff_lt, h0, h1] | fail))
    all_goals (unfold headB; simp only [*]; rfl)
end Go.Proofs.YtdakeodebgggfaaDoor

/- Rows of bytes that the call may write, whatever marks their block bears; append onto them. -/
namespace Go.Proofs.YtdakeodebgggfaaDoor
open Go.RowKit
set_option linter.unusedVariables false

/-- The cells of bytes. -/
def bl (xs : List UInt8) : List Value := xs.map fun x => Value.int .u8 (x.toNat : Int)
theorem bl_len (xs : List UInt8) : (bl xs).length = xs.length := by simp [bl]
theorem bl_app (xs ys : List UInt8) : bl (xs ++ ys) = bl xs ++ bl ys := by simp [bl]
theorem bl_one {xs : List UInt8} : ∀ u ∈ bl xs, u.oneCell' = true := by
  intro u hu
  obtain ⟨x, _, rfl⟩ := List.mem_map.1 hu
  rfl

/-- Bytes in a row of the call's own: they lie there, and what is behind them may be written. -/
def OwnB (w : World) (base : Nat) (v : Value) (xs : List UInt8) : Prop :=
  (v = .slice none 0 0 ∧ xs = []) ∨ ∃ g cap, v = .slice (some ⟨g, 0, none⟩) xs.length cap ∧ base ≤ g ∧ g < w.heap.size ∧ xs.length ≤ cap ∧ cap ≤ 9223372036854775807 ∧
    (∀ j u, (bl xs)[j]? = some u → w.cell? ⟨g, j, none⟩ = some u) ∧ ∀ j, j < cap → (w.cell? ⟨g, j, none⟩).isSome = true ∧ w.frozen? ⟨g, j, none⟩ = false

section
variable {P : Program} {w w' : World}
theorem OwnB.nil {base : Nat} : OwnB w base (.slice none 0 0) [] := .inl ⟨rfl, rfl⟩
theorem OwnB.lt {base : Nat} {v : Value} {xs : List UInt8} (h : OwnB w base v xs) : ∀ k, v.ownBlock = some k → base ≤ k ∧ k < w.heap.size := by
  rcases h with ⟨rfl, _⟩ | ⟨g, cap, rfl, hb, hg, _⟩
  · simp [Value.ownBlock]
  · intro k hk
    simp [Value.ownBlock] at hk
    subst hk
    exact ⟨hb, hg⟩
theorem OwnB.of_own {e : TypeId} {base : Nat} {S : Nat → Prop} {v : Value} {xs : List UInt8} (h : Rep.u8.own e w base S v xs) : OwnB w base v xs := by
  obtain ⟨cells, ho, hr⟩ := h
  rcases ho.2 with ⟨rfl, hn⟩ | ⟨g, cap, cur, rfl, hb, hg, hc1, hc2, hc3, hc4⟩
  · exact .inl ⟨rfl, List.eq_nil_of_length_eq_zero hn⟩
  · refine .inr ⟨g, cap, rfl, hb, (Array.getElem?_eq_some_iff.1 hg).1, hc1, by simpa [maxLen] using hc2, fun j u hu => ?_, fun j hj => ⟨?_, ?_⟩⟩
    · have hj : j < xs.length := by
        have := (List.getElem?_eq_some_iff.1 hu).1
        rwa [bl_len] at this
      have hx := hr j xs[j] (List.getElem?_eq_getElem hj)
      simp only [Rep.u8, Nat.mul_one] at hx
      have h0 : cells[j]? = some (.int .u8 (xs[j].toNat : Int)) := by
        have := congrArg (fun l => l[0]?) hx
        simpa [List.getElem?_take, List.getElem?_drop] using this
      have hu' : u = .int .u8 (xs[j].toNat : Int) := by
        simp [bl, List.getElem?_map, List.getElem?_eq_getElem hj] at hu
        exact hu.symm
      have := ho.cells (g := g) rfl j _ h0
      rw [Addr.add_lit, Nat.zero_add] at this
      rw [this, hu']
    · have hsz : j < cur.size := by rw [hc3]; simpa [Rep.u8] using hj
      rw [cell_of_row w g j cur e (0, 0) hg, Array.getElem?_eq_getElem hsz]
      rfl
    · exact boxed_frozen hg j
theorem OwnB.keep {base : Nat} {v : Value} {xs : List UInt8} (h : OwnB w base v xs) {row : Option Nat} (hg : w.grownBy w' row) (hne : v.ownBlock = none ∨ v.ownBlock ≠ row) : OwnB w' base v xs := by
  rcases h with ⟨rfl, rfl⟩ | ⟨g, cap, rfl, hb, hgl, h1, h2, h3, h4⟩
  · exact .nil
  · have hrow : some g ≠ row := by
      rcases hne with h | h
      · simp [Value.ownBlock] at h
      · simpa [Value.ownBlock] using h
    have hblk := hg.block g hgl hrow
    refine .inr ⟨g, cap, rfl, hb, Nat.lt_of_lt_of_le hgl hg.size, h1, h2, fun j u hu => ?_, fun j hj => ⟨?_, ?_⟩⟩
    · rw [World.cell?_of_block hblk]
      exact h3 j u hu
    · rw [World.cell?_of_block hblk]
      exact (h4 j hj).1
    · have : w'.frozen? ⟨g, j, none⟩ = w.frozen? ⟨g, j, none⟩ := by simp [World.frozen?, hblk]
      rw [this]
      exact (h4 j hj).2
theorem OwnB.later {base : Nat} {v : Value} {xs : List UInt8} (h : OwnB w base v xs) (hB : Below w.heap.size w w') : OwnB w' base v xs :=
  h.keep (row := none) ⟨hB.os, hB.tape, hB.output, hB.size, fun k hk _ => hB.block k hk⟩ (by cases hv : v.ownBlock <;> simp)
theorem OwnB.alloc {base : Nat} {v : Value} {xs : List UInt8} (h : OwnB w base v xs) (o : Obj) : OwnB (w.alloc o) base v xs := h.later (Below.alloc (Below.refl _ w) (Nat.le_refl _) o)
theorem OwnB.drew {base : Nat} {v : Value} {xs : List UInt8} (h : OwnB w base v xs) : OwnB w.drew base v xs := h.later (Below.refl _ w).drew
theorem OwnB.sl {base : Nat} {v : Value} {xs : List UInt8} (h : OwnB w base v xs) : ∃ A c, v = .slice A xs.length c ∧ Rep.u8.sl w (fun b => v.ownBlock = some b) A xs.length c xs := by
  rcases h with ⟨rfl, rfl⟩ | ⟨g, cap, rfl, hb, hgl, h1, h2, h3, h4⟩
  · exact ⟨none, 0, rfl, Rep.sl_nil⟩
  · refine ⟨_, cap, rfl, rfl, h1, h2, fun hn => ⟨g, 0, rfl, rfl, fun i x hx => ⟨[.int .u8 (x.toNat : Int)], rfl, fun j u hu => ?_⟩⟩⟩
    cases j with
    | zero =>
      simp at hu
      subst hu
      rw [show Rep.u8.size = 1 from rfl, Nat.mul_one, Nat.zero_add, Nat.add_zero]
      exact h3 i _ (by simp [bl, hx])
    | succ j => simp at hu
theorem OwnB.sl_all {base : Nat} {v : Value} {xs : List UInt8} (h : OwnB w base v xs) : ∃ A c, v = .slice A xs.length c ∧ Rep.u8.sl w (fun b => b < w.heap.size) A xs.length c xs := by
  have hl := h.lt
  obtain ⟨A, c, rfl, hs⟩ := h.sl
  exact ⟨A, c, rfl, Rep.sl_more hs fun b hb => (hl b hb).2⟩

/-- The bytes of a reading, as cells. -/
theorem sl_cells {S : Nat → Prop} {A : Option Addr} {m c : Nat} {ys : List UInt8} (h : Rep.u8.sl w S A m c ys) (hm : 0 < m) : ∃ ad, A = some ad ∧ ∀ j u, (bl ys)[j]? = some u → w.cell? (ad.add j) = some u := by
  obtain ⟨b, o, rfl, hb, hr⟩ := h.2.2.2 hm
  refine ⟨_, rfl, fun j u hu => ?_⟩
  have hj : j < ys.length := by
    have := (List.getElem?_eq_some_iff.1 hu).1
    rwa [bl_len] at this
  obtain ⟨es, he, hc⟩ := hr j ys[j] (List.getElem?_eq_getElem hj)
  obtain rfl : es = [.int .u8 (ys[j].toNat : Int)] := he
  have := hc 0 _ rfl
  simp only [Rep.u8, Nat.mul_one, Nat.add_zero] at this
  rw [Addr.add_lit, this]
  simp [bl, List.getElem?_map, List.getElem?_eq_getElem hj] at hu
  rw [hu]

/-- append onto a row of bytes that the call owns. -/
theorem run_appB {t e : TypeId} (T : ElemT P t e (.int .u8 0) 1 1) (ty : TypeId) {base : Nat} {v : Value} {xs ys : List UInt8} (h : OwnB w base v xs) {S : Nat → Prop} {A : Option Addr} {m c : Nat} (hs : Rep.u8.sl w S A m c ys)
    (hbytes : xs.length + m ≤ 140737488355328) (hbase : base ≤ w.heap.size) :
    ∃ v' w', (Builtin.append_ #[t, t] ty #[v, .slice A m c]).run P w = .ok v' w' ∧ OwnB w' base v' (xs ++ ys) ∧ w.grownBy w' v.ownBlock := by
  obtain ⟨i, hi, hz, hsz, hb⟩ := info_parts T.info
  have hm := hs.1
  rcases Nat.eq_zero_or_pos m with h0 | h0
  · have : ys = [] := List.eq_nil_of_length_eq_zero (by rw [hm, h0])
    subst this
    subst h0
    refine ⟨v, w, ?_, by simpa using h, World.grownBy.refl _ _⟩
    rcases h with ⟨rfl, _⟩ | ⟨g, cap, rfl, _, _, hnc, _⟩
    · cases A <;> simp [Builtin.append_, run_underlying T.und, sizeOf, typeInfo, hi, Builtin.lenOf, Builtin.firstCells, loadCells, loadCellsFrom]
    · cases A <;> simp [Builtin.append_, run_underlying T.und, sizeOf, typeInfo, hi, Builtin.lenOf, Builtin.firstCells, loadCells, loadCellsFrom, hnc, storeCells]
  · obtain ⟨ad, rfl, hc⟩ := sl_cells hs h0
    have hl : (bl ys).length = m * 1 := by rw [bl_len, hm]; omega
    rcases h with ⟨rfl, rfl⟩ | ⟨g, cap, rfl, hbg, hgl, h1, h2, h3, h4⟩
    · obtain ⟨v', w', e1, e2, e3, _⟩ := run_append_own_at (P := P) w base t ty e i (.int .u8 0) 1 1 T.und hi hz hsz hb T.zsz T.pos (.slice none 0 0) 0 [] (World.ownsRow_nil w base e 1) ad m c (bl ys) hl hc bl_one (by simp only [maxLen]; omega) (by simp at hbytes ⊢; omega) hbase
      refine ⟨v', w', e1, OwnB.of_own (e := e) (S := fun _ => False) ⟨bl ys, by rw [List.nil_append, hm]; simpa [Rep.u8] using e2, fun i x hx => ?_⟩, e3⟩
      show _ = _
      rw [List.nil_append] at hx
      rw [show Rep.u8.size = 1 from rfl, Nat.mul_one, List.take_one, List.head?_drop]
      simp [bl, hx]
    · by_cases hroom : xs.length + m ≤ cap
      · have hr := run_append_room_cells (P := P) w t ty e i T.und hi g 0 xs.length cap ad m c (bl ys) (by rw [hsz]; exact hl) hc bl_one hroom
          (fun j hj => (h4 _ (by rw [hsz]; rw [bl_len] at hj; omega)).1) (fun j hj => (h4 _ (by rw [hsz]; rw [bl_len] at hj; omega)).2)
        rw [hsz, Nat.mul_one, Nat.zero_add] at hr
        have hin : ∀ j, j < (bl ys).length → (w.cell? ⟨g, xs.length + j, none⟩).isSome = true := fun j hj => (h4 _ (by rw [bl_len] at hj; omega)).1
        have hsize : (w.setCells g xs.length (bl ys)).heap.size = w.heap.size := by
          have : ∀ (vs : List Value) (o : Nat) (w : World), (w.setCells g o vs).heap.size = w.heap.size := by
            intro vs
            induction vs with
            | nil => intro o w; rfl
            | cons v vs ih => intro o w; rw [World.setCells, ih]; simp [World.setCell]
          exact this _ _ _
        have hcell : ∀ j u, (bl (xs ++ ys))[j]? = some u → (w.setCells g xs.length (bl ys)).cell? ⟨g, j, none⟩ = some u := by
          intro j u hu
          rw [bl_app, List.getElem?_append] at hu
          split at hu
          · rename_i hj
            rw [World.cell?_setCells_out g _ _ _ _ (fun _ _ => .inl (by show j < xs.length; rwa [bl_len] at hj))]
            exact h3 j u hu
          · rename_i hj
            rw [bl_len] at hj hu
            have hj2 := (List.getElem?_eq_some_iff.1 hu).1
            have := World.cell?_setCells_in g (bl ys) xs.length w hin (j - xs.length) hj2
            rw [show xs.length + (j - xs.length) = j by omega] at this
            rw [this, ← hu, List.getElem?_eq_getElem hj2]
        have hsome : ∀ j, j < cap → ((w.setCells g xs.length (bl ys)).cell? ⟨g, j, none⟩).isSome = true := by
          intro j hj
          by_cases hin2 : xs.length ≤ j ∧ j < xs.length + m
          · have hj2 : j - xs.length < (bl ys).length := by rw [bl_len]; omega
            have := World.cell?_setCells_in g (bl ys) xs.length w hin (j - xs.length) hj2
            rw [show xs.length + (j - xs.length) = j by omega] at this
            rw [this]
            rfl
          · rw [World.cell?_setCells_out g _ _ _ _ (fun _ _ => by show j < xs.length ∨ xs.length + (bl ys).length ≤ j; rw [bl_len]; omega)]
            exact (h4 j hj).1
        refine ⟨_, _, hr, .inr ⟨g, cap, by rw [List.length_append, hm], hbg, by rw [hsize]; exact hgl, by rw [List.length_append, hm]; exact hroom, h2, hcell, fun j hj => ⟨hsome j hj, by rw [World.frozen?_setCells]; exact (h4 j hj).2⟩⟩, ?_⟩
        have hgr : ∀ (vs : List Value) (o : Nat) (w : World), w.grownBy (w.setCells g o vs) (some g) := by
          intro vs
          induction vs with
          | nil => intro o w; exact World.grownBy.refl _ _
          | cons v vs ih =>
            intro o w
            rw [World.setCells]
            exact grownBy_trans (grownBy_set (World.grownBy.refl w (some g)) v) (ih _ _)
        exact hgr _ _ _
      · obtain ⟨v', w', e1, e2, e3⟩ := run_append_arg_grows (P := P) w t ty e i (.int .u8 0) 1 1 T.und hi hz hsz hb T.zsz T.pos ⟨g, 0, none⟩ xs.length cap (bl xs) (by rw [bl_len]; omega)
          (fun j u hu => by rw [Addr.add_lit, Nat.zero_add]; exact h3 j u hu) ad m c (bl ys) hl hc (by omega) (by simp only [maxLen]; omega) (by omega)
        refine ⟨v', w', e1, OwnB.of_own (e := e) (S := fun _ => False) ⟨bl (xs ++ ys), ?_, fun i x hx => ?_⟩, grownBy_any e3 _⟩
        · rw [List.length_append, hm, bl_app]
          exact ownsRow_base e2 fun k hk => Nat.le_trans hbase (e2.lt k hk).1
        · show _ = _
          rw [show Rep.u8.size = 1 from rfl, Nat.mul_one, List.take_one, List.head?_drop]
          rw [show (bl (xs ++ ys))[i]? = some (.int .u8 (x.toNat : Int)) by rw [bl, List.getElem?_map, hx]; rfl]
          rfl

theorem wp_appB {o : Oper} {a : Act} {K : Act → World → Prop} {Q : Exit → Act → World → Prop} {t e : TypeId} (T : ElemT P t e (.int .u8 0) 1 1) (s x : Operand)
    (ho : o.op = .call { callee := .builtin .append, args := #[s, x], argTypes := #[t, t] }) {base : Nat} {v : Value} {xs ys : List UInt8} (hs : a.eval s = v) (hown : OwnB w base v xs) {S : Nat → Prop}
    {A : Option Addr} {m c : Nat} (hx : a.eval x = .slice A m c) (hsl : Rep.u8.sl w S A m c ys) (hbytes : xs.length + m ≤ 140737488355328) (hbase : base ≤ w.heap.size)
    (h : ∀ v' w', OwnB w' base v' (xs ++ ys) → w.grownBy w' v.ownBlock → K (a.put o.dst v') w') : o.wp P a w K Q := by
  obtain ⟨v', w', hrun, h2, h3⟩ := run_appB T o.type hown hsl hbytes hbase
  unfold Oper.wp execOp
  simp only [ho, resolve, invoke, builtin, Sem.run_bind, Sem.run_pure, Result.andThen_ok, List.map_toArray, List.map_cons, List.map_nil, hs, hx, hrun]
  exact h v' w' h2 h3
theorem wpList_appB {ops : Array Oper} {rest : List Oper} {o : Oper} {a : Act} {Q : Exit → Act → World → Prop} (hgd : o.guard = none) {t e : TypeId} (T : ElemT P t e (.int .u8 0) 1 1) (s x : Operand)
    (ho : o.op = .call { callee := .builtin .append, args := #[s, x], argTypes := #[t, t] }) {base : Nat} {v : Value} {xs ys : List UInt8} (hs : a.eval s = v) (hown : OwnB w base v xs) {S : Nat → Prop}
    {A : Option Addr} {m c : Nat} (hx : a.eval x = .slice A m c) (hsl : Rep.u8.sl w S A m c ys) (hbytes : xs.length + m ≤ 140737488355328) (hbase : base ≤ w.heap.size)
    (h : ∀ v' w', OwnB w' base v' (xs ++ ys) → w.grownBy w' v.ownBlock → wpList P ops Q rest (a.put o.dst v') w') : wpList P ops Q (o :: rest) a w :=
  wpList_plain hgd fun _ hK => wp_appB T s x ho hs hown hx hsl hbytes hbase fun v' w' h2 h3 => hK _ _ (h v' w' h2 h3)

/-- '[]byte(s)' gives a row of the call's own. -/
theorem conv_own {src dst e : TypeId} (hs : P.underlying src = some .string) (hd : P.underlying dst = some (.slice e)) (he : P.underlying e = some (.int .u8)) (w : World) (xs : List UInt8) (hx : xs.length ≤ 9223372036854775807) :
    ∃ v w', (convert src dst (.string ⟨xs.toArray⟩)).run P w = .ok v w' ∧ OwnB w' w.heap.size v xs ∧ Below w.heap.size w w' := by
  have hl : ByteArray.size ⟨xs.toArray⟩ = xs.length := by simp [ByteArray.size]
  have hr := Lib.run_convert_string_bytes (P := P) w src dst e ⟨xs.toArray⟩ hs hd he
  rw [hl] at hr
  have hge := grownCap_ge w xs.length 0 e
  have hle := grownCap_le_maxLen w xs.length 0 e (by simpa [maxLen] using hx)
  have hcs : (Lib.bytesCells w e ⟨xs.toArray⟩).size = grownCap w xs.length 0 e := by
    simp only [Lib.bytesCells, Array.size_append, Array.size_map, Array.size_replicate, hl]
    show xs.toArray.size + _ = _
    rw [List.size_toArray]
    omega
  have hnew := Lib.bytesWorld_at_new w e ⟨xs.toArray⟩
  refine ⟨_, _, hr, .inr ⟨w.heap.size, _, rfl, Nat.le_refl _, by rw [Lib.bytesWorld_size]; omega, hge, by simpa [maxLen] using hle, fun j u hu => ?_, fun j hj => ⟨?_, ?_⟩⟩, ?_⟩
  · have hj : j < xs.length := by
      have := (List.getElem?_eq_some_iff.1 hu).1
      rwa [bl_len] at this
    rw [Lib.bytesWorld_cell w e ⟨xs.toArray⟩ j (by rw [hl]; exact hj)]
    simp [bl, List.getElem?_map, List.getElem?_eq_getElem hj] at hu
    rw [← hu]
    simp [List.getD, hj]
  · have hsz : j < (Lib.bytesCells w e ⟨xs.toArray⟩).size := by rw [hcs]; exact hj
    simp [World.cell?, hnew, hsz]
  · simp only [World.frozen?, hnew, Bool.and_eq_false_iff, decide_eq_false_iff_not]
    left
    rw [hcs]
    omega
  · refine ⟨?_, ?_, ?_, by rw [Lib.bytesWorld_size]; omega, fun k hk => Lib.bytesWorld_at_old w e _ k hk⟩
    all_goals
      unfold Lib.bytesWorld World.freeze
      split <;> rfl
end
end Go.Proofs.YtdakeodebgggfaaDoor

/- A row's text, out of its walk; a value's form. -/
namespace Go.Proofs.YtdakeodebgggfaaDoor
open Go.RowKit
set_option linter.unusedVariables false
set_option linter.unusedSimpArgs false
set_option maxRecDepth 100000
set_option maxHeartbeats 2000000
theorem TBm : ElemT Tryd.prog 22 5 (.int .u8 0) 1 1 := ⟨Tryd.underlying22, by kernel_rfl, rfl, by decide⟩
theorem below_ev {w w' : World} (h : Ev (fun _ => False) w w') : Below w.heap.size w w' := ⟨h.os, h.tape, h.output, h.size, fun k hk => h.block k hk fun h => h⟩
theorem OwnB.rd {w : World} {base : Nat} {v : Value} {xs : List UInt8} (h : OwnB w base v xs) : RD w (fun b => base ≤ b ∧ b < w.heap.size) (bytesD xs) v := by
  rcases h with ⟨rfl, rfl⟩ | ⟨g, cap, rfl, hb, hg, hle, hcap, hc, _⟩
  · exact .nil none 0 (by omega)
  · refine .sl xs.length cap g 0 _ (fun i => ((bl xs)[i]?).getD undef) hle hcap ⟨hb, hg⟩ (fun i x hx => ?_) fun i x hx => ?_
    all_goals
      rw [List.getElem?_map] at hx
      cases hl : xs[i]? with
      | none => rw [hl] at hx; cases hx
      | some y =>
        rw [hl] at hx
        have hx : some (bD y) = some x := hx
        injection hx with hx
        subst hx
        have e : (bl xs)[i]? = some (.int .u8 (y.toNat : Int)) := by simp [bl, hl]
        first
          | (rw [e, Nat.zero_add]; exact hc i _ e)
          | (rw [e]; exact .v _ rfl)
theorem below_ownM {w0 w w' : World} {base : Nat} {v : Value} {xs : List UInt8} (hB : Below w0.heap.size w0 w) (ho : OwnB w base v xs) (hg : w.grownBy w' v.ownBlock) (hb : w0.heap.size ≤ base) : Below w0.heap.size w0 w' :=
  hB.grown hg hB.size fun k hk => Nat.le_trans hb (ho.lt k hk).1
theorem slKeepM {r : Rep UInt8} {S : Nat → Prop} {w w' : World} {A : Option Addr} {n c : Nat} {x : List UInt8} (h : r.sl w S A n c x) (hB : Below w.heap.size w w') (hS : ∀ b, S b → b < w.heap.size) : r.sl w' S A n c x := Rep.sl_below h hB hS
theorem sl_litM {w : World} {x : UInt8} {k : Int} (hk : k = (x.toNat : Int)) (t : TypeId) : Rep.u8.sl (w.alloc (.cells #[.int .u8 k] t)) (fun _ => True) (some ⟨w.heap.size, 0, none⟩) 1 1 [x] := by
  subst hk
  exact sl_box (r := Rep.u8) (S := fun _ => True) (box_new w _ t) trivial rfl (Nat.le_refl _) (by decide) (rd_one rfl)
theorem text_m {G : Nat → Option (List D)} (b : List UInt8) (hn : b.length ≤ 1000000000) : Spec Tryd.prog G 56 [.c (bytesD b)] (.one (.c (bytesD (textB b)))) := by
  intro w S vs hS hT hA
  obtain ⟨hl, hc⟩ := hA
  match vs, hl with
  | [u], _ =>
    obtain ⟨A, c, rfl, hs⟩ := bytes_sl (hc 0 _ _ rfl rfl) rfl
    have HS := Lib.hid hs
    have HSS := Lib.hid hS
    have HDM := Lib.hid (dec_m (G := G) b.length hn w S [.int .i64 (b.length : Nat)] hS hT ⟨rfl, fun i x v hx hv => by
      cases i with
      | zero =>
        simp at hx hv
        subst hx hv
        exact .v _ rfl
      | succ i => simp at hx⟩)
    have HT : Hid (dec b.length ++ [58] ++ b = textB b) := rfl
    have hdl : (dec b.length).length ≤ 10 := dec_len 9 (by simp only [Nat.reduceAdd, Nat.reducePow]; omega)
    have HD := Lib.hid hdl
    clear hs hdl hS hT hc
    generalize b.length = n at *
    go_enter Tryd.func56, Tryd.ntmps56
    go_wp2_with fail
    refine Calls.mono HDM.out ?_
    rintro e w1 ⟨hE1, u1, rfl, hu1⟩
    have hB1 := below_ev hE1
    obtain rfl : u1 = .string ⟨(dec n).toArray⟩ := by
      have h9 : RD w1 _ (.v (.string ⟨(dec n).toArray⟩)) u1 := hu1
      cases h9
      rfl
    clear hu1 hE1 HDM
    obtain ⟨v2, w2, hcv, ho2, hB2⟩ := conv_own (P := Tryd.prog) Tryd.underlying9 Tryd.underlying22 Tryd.underlying5 w1 (dec n) (by have := HD.out; omega)
    have hB2' : Below w.heap.size w w2 := hB1.trans (hB2.mono hB1.size)
    have hz1 := hB1.size
    have hz2 := hB2.size
    generalize dec n = D at *
    go_wp2_with (at_builtin; refine halt ?_)
    refine go_on (wpList_appB rfl TBm _ _ rfl (by rfl) (ho2.alloc _) (by rfl) (sl_litM (x := 58) rfl _) (by have := HD.out; omega) (by simp only [World.size_alloc]; omega) ?_)
    intro v3 w3 ho3 hg3
    have hB3 := below_ownM (hB2'.alloc hB2'.size _) (ho2.alloc _) hg3 hz1
    have hz3 := hB3.size
    have hs3 := slKeepM HS.out hB3 HSS.out
    have hg3b : w1.heap.size ≤ w3.heap.size := Nat.le_trans (by simp only [World.size_alloc]; omega) hg3.size
    clear hcv hB2 hB1 hg3
    go_wp2_with (at_builtin; refine halt ?_)
    refine go_on (wpList_appB rfl TBm _ _ rfl (by rfl) ho3 (by rfl) hs3 (by have := HD.out; simp only [List.length_append, List.length_singleton]; omega) (by have := hg3b; omega) ?_)
    intro v4 w4 ho4 hg4
    have hB4 := below_ownM hB3 ho3 hg4 hz1
    rw [HT.out] at ho4
    have HO := Lib.hid ho4
    clear ho4 hg4 ho3 hs3
    go_wp2
    go_ret
    exact ⟨⟨hB4.os, hB4.tape, hB4.output, hB4.size, fun k hk _ => hB4.block k hk⟩, v4, rfl, RD.mono (fun b hb => .inr ⟨by omega, hb.2⟩) (fun _ _ => rfl) HO.out.rd⟩
end Go.Proofs.YtdakeodebgggfaaDoor

/- From the form's reading of an argument to a reading by 'Rep'. -/
namespace Go.Proofs.YtdakeodebgggfaaDoor
open Go.RowKit Go.ChangeShapes Go.WideShapes Go.Deep

/-- Whatever of type t is read as data is read by r. -/
def Opens {α : Type} (P : Program) (t : TypeId) (r : Rep α) : Prop :=
  P.cellsOf t = r.size ∧ ∀ (H : Type) (enc : TypeId × Value → H) (w : World) (sp : Nat → Bool) (held : Bool) (fuel : Nat) (cs : List Value) (x : DataW H × List MemPlace), DataW.trod enc P w 0 sp held fuel t cs = some x → ∃ y, r.rd w (fun b => b < w.heap.size) cs y

section
variable {α : Type} {P : Program} {t e : TypeId}
theorem opens_u8 (ht : P.underlying t = some (.int .u8)) (hc : P.cellsOf t = 1) : Opens P t Rep.u8 :=
  ⟨hc, fun H enc w sp held fuel cs x h => by
    obtain ⟨n, rfl, _, hw⟩ := DataW.trod_int ht h
    have hb : 0 ≤ n ∧ n ≤ 255 := bounds_u8 hw
    exact ⟨ub n, rd_u8 (ub_val hb.1 hb.2)⟩⟩
theorem opens_i64 (ht : P.underlying t = some (.int .i64)) (hc : P.cellsOf t = 1) : Opens P t Rep.i64 :=
  ⟨hc, fun H enc w sp held fuel cs x h => by
    obtain ⟨n, rfl, _, hw⟩ := DataW.trod_int ht h
    exact ⟨n, rfl, bounds_i64 hw⟩⟩
theorem opens_bool (ht : P.underlying t = some .bool) (hc : P.cellsOf t = 1) : Opens P t Rep.bool :=
  ⟨hc, fun H enc w sp held fuel cs x h => by
    obtain ⟨b, rfl, _⟩ := DataW.trod_bool ht h
    exact ⟨b, rfl⟩⟩
theorem opens_str (ht : P.underlying t = some .string) (hc : P.cellsOf t = 1) : Opens P t Rep.str :=
  ⟨hc, fun H enc w sp held fuel cs x h => by
    obtain ⟨s, rfl, _, hs⟩ := DataW.trod_string ht h
    refine ⟨s.data.toList, by simp, ?_⟩
    simp only [maxLen] at hs
    have : s.data.toList.length = s.size := by rw [Array.length_toList]; rfl
    omega⟩
theorem opens_slice {r : Rep α} (ht : P.underlying t = some (.slice e)) (hc : P.cellsOf t = 1) (he : Opens P e r) : Opens P t r.slice :=
  ⟨hc, fun H enc w sp held fuel cs x h => by
    rcases open_slice ht h with ⟨rfl, _⟩ | ⟨a, len, cap, m, n, D, Pl, rfl, _, hl, hm, hmm, _, hi⟩
    · exact ⟨[], none, 0, 0, rfl, Rep.sl_nil⟩
    · have hlm : len ≤ m := by rw [hmm]; split <;> omega
      have hel : ∀ i, i < len → ∃ y, ∃ es : List Value, r.rd w (fun b => b < w.heap.size) es y ∧ ∀ j u, es[j]? = some u → w.cell? (a.add (i * r.size + j)) = some u := by
        intro i hi'
        obtain ⟨cs', h1, h2⟩ := hi i (by omega)
        obtain ⟨y, hy⟩ := he.2 H enc w sp held n cs' _ h2
        refine ⟨y, cs', hy, fun j u hu => ?_⟩
        obtain ⟨_, hcl, hat⟩ := World.cells?_some h1
        have hj : j < P.cellsOf e := by
          have := (List.getElem?_eq_some_iff.1 hu).1
          omega
        have := hat j hj
        rw [he.1] at this
        rw [← Go.Deep.add_add, this, hu]
      rcases Nat.eq_zero_or_pos len with h0 | hpos
      · subst h0
        exact ⟨[], _, 0, cap, rfl, rfl, by omega, by simpa [maxLen] using hm, fun h => absurd h (by omega)⟩
      · obtain ⟨y0, es0, hr0, hc0⟩ := hel 0 hpos
        have hne : 0 < es0.length := by rw [r.len hr0]; exact r.pos
        have hcell := hc0 0 es0[0] (List.getElem?_eq_getElem hne)
        simp only [Nat.zero_mul, Nat.add_zero] at hcell
        obtain ⟨b, off, spot⟩ := a
        have hspot : spot = none := by simpa [Addr.add] using World.cell?_spot hcell
        subst hspot
        have hlt : b < w.heap.size := by simpa [Addr.add] using World.block_lt_of_cell? w _ hcell
        have : Nonempty α := ⟨y0⟩
        let f : Nat → α := fun i => if h : i < len then Classical.choose (hel i h) else y0
        have hf : ∀ i (h : i < len), ∃ es : List Value, r.rd w (fun b => b < w.heap.size) es (f i) ∧ ∀ j u, es[j]? = some u → w.cell? (Addr.add ⟨b, off, none⟩ (i * r.size + j)) = some u := by
          intro i h
          have := Classical.choose_spec (hel i h)
          simpa [f, h] using this
        refine ⟨(List.range len).map f, some ⟨b, off, none⟩, len, cap, rfl, by simp, hl, by simpa [maxLen] using hm, fun _ => ⟨b, off, rfl, hlt, fun i x hx => ?_⟩⟩
        have hil : i < len := by
          have := (List.getElem?_eq_some_iff.1 hx).1
          simpa using this
        simp [hil] at hx
        subst hx
        obtain ⟨es, h1, h2⟩ := hf i hil
        refine ⟨es, h1, fun j u hu => ?_⟩
        have := h2 j u hu
        rw [Addr.add_lit] at this
        rw [← this, Nat.add_assoc]⟩

/-- A struct's part. -/
theorem trod_part {H : Type} {enc : TypeId × Value → H} {w : World} {base : Nat} {sp : Nat → Bool} {held : Bool} {fuel : Nat} {cs : List Value} {x : DataW H × List MemPlace} {fs : Array Field} (ht : P.underlying t = some (.struct fs)) (h : DataW.trod enc P w base sp held fuel t cs = some x)
    (i : Nat) {T o s : Nat} (hf : (fs.toList[i]?).map (fun f => (f.type, f.offset)) = some (T, o)) (hs : P.cellsOf T = s) : ∃ n y, DataW.trod enc P w base sp held n T ((cs.drop o).take s) = some y := by
  obtain ⟨xs, n, _, _, _, hl, hg⟩ := DataW.trod_struct ht h
  obtain ⟨f, h1, h2⟩ := Option.map_eq_some_iff.1 hf
  simp only [Prod.mk.injEq] at h2
  obtain ⟨rfl, rfl⟩ := h2
  have h1' : fs[i]? = some f := by simpa using h1
  have := hg i f h1'
  have hi : i < xs.length := by
    have := (Array.getElem?_eq_some_iff.1 h1').1
    omega
  rw [hs, List.getElem?_eq_getElem hi] at this
  exact ⟨n, _, this⟩
end
end Go.Proofs.YtdakeodebgggfaaDoor

/- From the form's reading of a value to a tree, with what it holds. -/
namespace Go.Proofs.YtdakeodebgggfaaDoor
open Go.RowKit Go.ChangeShapes Go.WideShapes Go.Deep
set_option linter.unusedVariables false

/-- Whatever of type t is read as data, with so much fuel, is read by r, and holds no more. -/
def OpensN {α : Type} (P : Program) (fuel : Nat) (t : TypeId) (r : Rep α) (wt : α → Nat) : Prop :=
  ∀ (H : Type) (enc : TypeId × Value → H) (w : World) (sp : Nat → Bool) (held : Bool) (cs : List Value) (x : DataW H × List MemPlace), DataW.trod enc P w 0 sp held fuel t cs = some x →
    ∃ y, r.rd w (fun b => b < w.heap.size) cs y ∧ wt y ≤ Rows.uptoBulk x.1

theorem pick_list {α : Type} (Q : Nat → α → Prop) : ∀ n, (∀ i, i < n → ∃ y, Q i y) → ∃ xs : List α, xs.length = n ∧ ∀ i x, xs[i]? = some x → Q i x
  | 0, _ => ⟨[], rfl, fun i x h => by simp at h⟩
  | n + 1, h => by
    obtain ⟨xs, h1, h2⟩ := pick_list Q n fun i hi => h i (by omega)
    obtain ⟨y, hy⟩ := h n (by omega)
    refine ⟨xs ++ [y], by simp [h1], fun i x hx => ?_⟩
    rw [List.getElem?_append] at hx
    split at hx
    · exact h2 i x hx
    · rename_i hi
      have : i - xs.length = 0 := by
        cases hk : i - xs.length with
        | zero => rfl
        | succ k => rw [hk] at hx; simp at hx
      rw [this] at hx
      simp at hx
      subst hx
      obtain rfl : i = n := by omega
      exact hy
theorem sum_bulk {H α : Type} (wt : α → Nat) : ∀ (xs : List α) (ds : List (DataW H)), xs.length = ds.length → (∀ (i : Nat) (x : α) (d : DataW H), xs[i]? = some x → ds[i]? = some d → wt x ≤ Rows.uptoBulk d) → (xs.map wt).sum ≤ Rows.uptoBulkAll ds
  | [], _, _, _ => by simp
  | x :: xs, [], h, _ => by simp at h
  | x :: xs, d :: ds, h, hw => by
    have h0 := hw 0 x d rfl rfl
    have := sum_bulk wt xs ds (by simpa using h) fun i y e hy he => hw (i + 1) y e (by simpa using hy) (by simpa using he)
    simp only [List.map_cons, List.sum_cons, Rows.uptoBulkAll]
    omega

section
variable {α : Type} {P : Program} {t e : TypeId}
theorem opensN_u8 (fuel : Nat) (ht : P.underlying t = some (.int .u8)) (hc : P.cellsOf t = 1) : OpensN P fuel t Rep.u8 (fun _ => 1) := fun H enc w sp held cs x h => by
  obtain ⟨y, hy⟩ := (opens_u8 ht hc).2 H enc w sp held fuel cs x h
  refine ⟨y, hy, ?_⟩
  obtain ⟨n, rfl, rfl, hw⟩ := DataW.trod_int ht h
  simp [Rows.uptoBulk]
theorem opensN_slice {r : Rep α} {wt : α → Nat} (fuel : Nat) (ht : P.underlying t = some (.slice e)) (hce : P.cellsOf e = r.size) (he : ∀ n, n < fuel → OpensN P n e r wt) : OpensN P fuel t r.slice (fun xs => (xs.map wt).sum + 1) := fun H enc w sp held cs x h => by
  rcases DataW.trod_slice ht h with ⟨rfl, rfl⟩ | ⟨a, len, cap, elems, rest, n, rfl, rfl, rfl, _, hl, hm, hlen, hi, _⟩
  · exact ⟨[], ⟨none, 0, 0, rfl, Rep.sl_nil⟩, by simp [Rows.uptoBulk]⟩
  · have hel : ∀ i, i < len → ∃ y, (∃ es : List Value, r.rd w (fun b => b < w.heap.size) es y ∧ ∀ j u, es[j]? = some u → w.cell? (a.add (i * r.size + j)) = some u) ∧ ∀ d, elems[i]? = some d → wt y ≤ Rows.uptoBulk d.1 := by
      intro i hil
      have hh := hi i hil
      have hin : i < elems.length := by omega
      rw [List.getElem?_eq_getElem hin] at hh ⊢
      obtain ⟨cs', h1, h2⟩ := Option.bind_eq_some_iff.1 hh
      obtain ⟨y, hy, hwt⟩ := he n (by omega) H enc w sp held cs' _ h2
      refine ⟨y, ⟨cs', hy, fun j u hu => ?_⟩, fun d hd => ?_⟩
      · obtain ⟨_, hcl, hat⟩ := World.cells?_some h1
        have hj : j < P.cellsOf e := by
          have := (List.getElem?_eq_some_iff.1 hu).1
          omega
        have := hat j hj
        rw [hce] at this
        rw [← Go.Deep.add_add, this, hu]
      · injection hd with hd
        subst hd
        exact hwt
    obtain ⟨xs, hx1, hx2⟩ := pick_list _ len hel
    refine ⟨xs, ⟨some a, len, cap, rfl, hx1, hl, by simpa [maxLen] using hm, fun hn => ?_⟩, ?_⟩
    · obtain ⟨y0, ⟨es0, hr0, hc0⟩, _⟩ := hel 0 hn
      have hne : 0 < es0.length := by rw [r.len hr0]; exact r.pos
      have hcell := hc0 0 es0[0] (List.getElem?_eq_getElem hne)
      simp only [Nat.zero_mul, Nat.add_zero] at hcell
      obtain ⟨b, off, spot⟩ := a
      have hspot : spot = none := by simpa [Addr.add] using World.cell?_spot hcell
      subst hspot
      have hlt : b < w.heap.size := by simpa [Addr.add] using World.block_lt_of_cell? w _ hcell
      refine ⟨b, off, rfl, hlt, fun i x hx => ?_⟩
      obtain ⟨⟨es, h1, h2⟩, _⟩ := hx2 i x hx
      refine ⟨es, h1, fun j u hu => ?_⟩
      have := h2 j u hu
      rw [Addr.add_lit] at this
      rw [← this, Nat.add_assoc]
    · have := sum_bulk (H := H) wt xs (elems.map (·.1)) (by rw [hx1, List.length_map, hlen]) fun i x d hx hd => by
        rw [List.getElem?_map, Option.map_eq_some_iff] at hd
        obtain ⟨d', hd', rfl⟩ := hd
        exact (hx2 i x hx).2 d' hd'
      simp only [Rows.uptoBulk]
      omega
theorem sum_ones {β : Type} (xs : List β) : (xs.map fun _ => 1).sum = xs.length := by
  induction xs with
  | nil => rfl
  | cons x xs ih => simp only [List.map_cons, List.sum_cons, ih, List.length_cons]; omega

/-- A value of type Sexp is a tree. -/
theorem opensN_tree {tb tB tl ty : TypeId} {fs : Array Field} (ht : P.underlying t = some (.struct fs)) (hf : fs.toList.map (fun f => (f.type, f.offset)) = [(tb, 0), (tb, 1), (tB, 2), (tB, 3), (tl, 4)]) (hc : P.cellsOf t = 5)
    (hb : P.underlying tb = some .bool) (hB : P.underlying tB = some (.slice ty)) (hy : P.underlying ty = some (.int .u8)) (hl : P.underlying tl = some (.slice t))
    (cb : P.cellsOf tb = 1) (cB : P.cellsOf tB = 1) (cy : P.cellsOf ty = 1) (cl : P.cellsOf tl = 1) : ∀ fuel, OpensN P fuel t Rep.tree Tree.wt := by
  intro fuel
  induction fuel using Nat.strongRecOn with
  | _ fuel ih =>
  intro H enc w sp held cs x h
  obtain ⟨xs, n, rfl, rfl, hcl, hlx, hg⟩ := DataW.trod_struct ht h
  have hfl : fs.size = 5 := by
    have := congrArg List.length hf
    simpa using this
  have hfi : ∀ (i : Nat) (p : Nat × Nat), [(tb, 0), (tb, 1), (tB, 2), (tB, 3), (tl, 4)][i]? = some p → ∃ f : Field, fs[i]? = some f ∧ f.type = p.1 ∧ f.offset = p.2 := by
    intro i p hp
    rw [← hf, List.getElem?_map, Option.map_eq_some_iff] at hp
    obtain ⟨f, h1, rfl⟩ := hp
    exact ⟨f, by simpa using h1, rfl, rfl⟩
  have hx5 : xs.length = 5 := by omega
  have hc5 : cs.length = 5 := by omega
  match xs, hx5, cs, hc5 with
  | [x0, x1, x2, x3, x4], _, [c0, c1, c2, c3, c4], _ =>
    obtain ⟨f0, g0, t0, o0⟩ := hfi 0 _ rfl
    obtain ⟨f1, g1, t1, o1⟩ := hfi 1 _ rfl
    obtain ⟨f2, g2, t2, o2⟩ := hfi 2 _ rfl
    obtain ⟨f3, g3, t3, o3⟩ := hfi 3 _ rfl
    obtain ⟨f4, g4, t4, o4⟩ := hfi 4 _ rfl
    have e0 := hg 0 f0 g0
    have e1 := hg 1 f1 g1
    have e2 := hg 2 f2 g2
    have e3 := hg 3 f3 g3
    have e4 := hg 4 f4 g4
    rw [t0, o0, cb] at e0
    rw [t1, o1, cb] at e1
    rw [t2, o2, cB] at e2
    rw [t3, o3, cB] at e3
    rw [t4, o4, cl] at e4
    obtain ⟨b0, q0, r0⟩ := DataW.trod_bool hb e0
    obtain ⟨b1, q1, r1⟩ := DataW.trod_bool hb e1
    have oB : ∀ n, OpensN P n tB Rep.u8.slice (fun xs => (xs.map fun _ => 1).sum + 1) := fun n => opensN_slice n hB cy fun m _ => opensN_u8 m hy cy
    obtain ⟨y2, ⟨A2, n2, k2, q2, s2⟩, w2⟩ := oB _ _ _ _ _ _ _ _ e2
    obtain ⟨y3, ⟨A3, n3, k3, q3, s3⟩, w3⟩ := oB _ _ _ _ _ _ _ _ e3
    obtain ⟨y4, ⟨A4, n4, k4, q4, s4⟩, w4⟩ := opensN_slice (r := Rep.tree) (wt := Tree.wt) n hl hc (fun m hm => ih m (by omega)) _ _ _ _ _ _ _ e4
    simp only [List.drop_zero, List.drop_succ_cons, List.take_succ_cons, List.take_zero, List.cons.injEq, and_true] at q0 q1 q2 q3 q4
    subst q0 q1 q2 q3 q4
    refine ⟨.mk b0 b1 y2 y3 y4, Rep.tree_mk (t := .mk b0 b1 y2 y3 y4) ⟨s2, s3, s4⟩, ?_⟩
    rw [Tree.wt_eq]
    simp only [sum_ones] at w2 w3
    have w4' : (y4.map Tree.wt).sum + 1 ≤ Rows.uptoBulk x4.1 := w4
    simp only [Rows.uptoBulk, Rows.uptoBulkAll, List.map_cons, List.map_nil, Tree.hint, Tree.data, Tree.kids]
    omega
end
end Go.Proofs.YtdakeodebgggfaaDoor

/- From the form's reading to data. -/
namespace Go.Proofs.YtdakeodebgggfaaDoor
open Go.RowKit
set_option linter.unusedVariables false
/-- Cells that read as data. -/
def CellsR (w : World) (S : Nat → Prop) (ds : List D) (cs : List Value) : Prop := cs.length = ds.length ∧ ∀ (i : Nat) x u, ds[i]? = some x → cs[i]? = some u → RD w S x u
def CellsOf {α : Type} (r : Rep α) (f : α → List D) : Prop := ∀ {w : World} {S : Nat → Prop} {cs : List Value} {y : α}, r.rd w S cs y → CellsR w S (f y) cs
theorem cellsR_nil {w : World} {S : Nat → Prop} : CellsR w S [] [] := ⟨rfl, fun i x u hx => by simp at hx⟩
theorem cellsR_cons {w : World} {S : Nat → Prop} {x : D} {u : Value} {ds : List D} {cs : List Value} (h : RD w S x u) (k : CellsR w S ds cs) : CellsR w S (x :: ds) (u :: cs) :=
  ⟨by simp [k.1], fun i y v hy hv => by
    cases i with
    | zero =>
      simp at hy hv
      subst hy hv
      exact h
    | succ i => exact k.2 i y v (by simpa using hy) (by simpa using hv)⟩
theorem cellsR_app {w : World} {S : Nat → Prop} {ds es : List D} {cs us : List Value} (h : CellsR w S ds cs) (k : CellsR w S es us) : CellsR w S (ds ++ es) (cs ++ us) :=
  ⟨by simp [h.1, k.1], fun i y v hy hv => by
    rw [List.getElem?_append] at hy hv
    rw [h.1] at hv
    split at hy
    · rename_i hi
      rw [if_pos hi] at hv
      exact h.2 i y v hy hv
    · rename_i hi
      rw [if_neg hi] at hv
      exact k.2 _ y v hy hv⟩
theorem cells_at {α : Type} {f : α → List D} {n : Nat} (hf : ∀ x, (f x).length = n) (hn : 0 < n) {l : List α} {k : Nat} {d : D} (h : (l.flatMap f)[k]? = some d) : ∃ x, l[k / n]? = some x ∧ (f x)[k % n]? = some d := by
  have hk := (List.getElem?_eq_some_iff.1 h).1
  rw [flat_len hf] at hk
  have hq : k / n < l.length := Nat.div_lt_of_lt_mul (by rw [Nat.mul_comm]; exact hk)
  refine ⟨l[k / n], List.getElem?_eq_getElem hq, ?_⟩
  have h1 := flat_at hf (List.getElem?_eq_getElem hq)
  have h2 : (((l.flatMap f).drop (k / n * n)).take n)[k % n]? = some d := by
    rw [List.getElem?_take, if_pos (Nat.mod_lt _ hn), List.getElem?_drop, Nat.div_add_mod']
    exact h
  rw [h1] at h2
  exact h2
/-- A slice of what reads so. -/
theorem rd_slice {α : Type} {w : World} {S : Nat → Prop} {r : Rep α} {f : α → List D} {A : Option Addr} {n c : Nat} {l : List α} (hlen : ∀ x, (f x).length = r.size)
    (hc : ∀ {es : List Value} {y : α}, y ∈ l → r.rd w S es y → CellsR w S (f y) es) (h : r.sl w S A n c l) : RD w S (.sl l.length (l.flatMap f)) (.slice A n c) := by
  obtain ⟨rfl, hnc, hcm, hh⟩ := h
  by_cases h0 : 0 < l.length
  · obtain ⟨b, o, rfl, hb, hr⟩ := hh h0
    have key : ∀ (k : Nat) d, (l.flatMap f)[k]? = some d → w.cell? ⟨b, o + k, none⟩ = some ((w.cell? ⟨b, o + k, none⟩).getD undef) ∧ RD w S d ((w.cell? ⟨b, o + k, none⟩).getD undef) := fun k d hd => by
      obtain ⟨x, hx, hxd⟩ := cells_at hlen r.pos hd
      obtain ⟨es, he, hce⟩ := hr _ x hx
      obtain ⟨g1, g2⟩ := hc (List.mem_of_getElem? hx) he
      have hlt : k % r.size < es.length := by rw [g1, hlen]; exact Nat.mod_lt _ r.pos
      have h1 := hce _ _ (List.getElem?_eq_getElem hlt)
      rw [Nat.add_assoc, Nat.div_add_mod'] at h1
      rw [h1]
      exact ⟨rfl, g2 _ d _ hxd (List.getElem?_eq_getElem hlt)⟩
    exact .sl _ c b o _ _ hnc hcm hb (fun k d hd => (key k d hd).1) fun k d hd => (key k d hd).2
  · have : l = [] := List.eq_nil_of_length_eq_zero (by omega)
    subst this
    exact .nil A c hcm
theorem cellsOf_slice {α : Type} {r : Rep α} {f : α → List D} (hlen : ∀ x, (f x).length = r.size) (h : CellsOf r f) : CellsOf r.slice (fun l => [.sl l.length (l.flatMap f)]) := by
  rintro w S cs y ⟨A, n, c, rfl, hs⟩
  exact cellsR_cons (rd_slice hlen (fun _ hr => h hr) hs) cellsR_nil
theorem cellsOf_u8 : CellsOf Rep.u8 (fun b => [bD b]) := by
  rintro w S cs y h
  have h : cs = _ := h
  subst h
  exact cellsR_cons (.v _ rfl) cellsR_nil
theorem flatMap_one : ∀ l : List UInt8, l.flatMap (fun b => [bD b]) = l.map bD
  | [] => rfl
  | x :: l => by rw [List.flatMap_cons, flatMap_one l]; rfl
theorem rd_bytes {w : World} {S : Nat → Prop} {A : Option Addr} {n c : Nat} {l : List UInt8} (h : Rep.u8.sl w S A n c l) : RD w S (bytesD l) (.slice A n c) := by
  have h9 := rd_slice (f := fun b => [bD b]) (fun _ => rfl) (fun _ hr => cellsOf_u8 hr) h
  rw [flatMap_one] at h9
  exact h9
theorem cellsOf_bytes : CellsOf Rep.u8.slice (fun l => [bytesD l]) := by
  rintro w S cs y ⟨A, n, c, rfl, hs⟩
  exact cellsR_cons (rd_bytes hs) cellsR_nil
theorem cellsOf_tree : CellsOf Rep.tree treeC := by
  intro w S cs y h
  revert cs
  refine Tree.ind (P := fun y => ∀ {cs : List Value}, Rep.tree.rd w S cs y → CellsR w S (treeC y) cs) (fun t ih cs h => ?_) y
  have h : Tree.rd w S cs t := h
  rw [Tree.rd] at h
  obtain ⟨A1, n1, c1, A2, n2, c2, A3, n3, c3, rfl, h1, h2, h3, h4, h5, h6⟩ := h
  rw [treeC_eq]
  refine cellsR_cons (.v _ rfl) (cellsR_cons (.v _ rfl) (cellsR_cons (rd_bytes h1) (cellsR_cons (rd_bytes h2) (cellsR_cons ?_ cellsR_nil))))
  exact rd_slice (r := Rep.tree) treeC_len (fun hy hr => ih _ hy hr) ⟨h3, h4, h5, h6⟩
theorem drd_g {w : World} {S : Nat → Prop} {ds : List D} {cs : List Value} (h : CellsR w S ds cs) : DRd w S (.g ds) (.agg cs.toArray) := ⟨cs, rfl, h.1, h.2⟩
theorem dargs_nil {w : World} {S : Nat → Prop} : DArgs w S [] [] := ⟨rfl, fun i x u hx => by simp at hx⟩
theorem dargs_cons {w : World} {S : Nat → Prop} {x : DV} {u : Value} {ds : List DV} {cs : List Value} (h : DRd w S x u) (k : DArgs w S ds cs) : DArgs w S (x :: ds) (u :: cs) :=
  ⟨by simp [k.1], fun i y v hy hv => by
    cases i with
    | zero =>
      simp at hy hv
      subst hy hv
      exact h
    | succ i => exact k.2 i y v (by simpa using hy) (by simpa using hv)⟩
/-- A law of data, called. -/
theorem law_calls {P : Program} {G : Nat → Option (List D)} {f : FuncId} {args : List DV} {vs : List Value} {W : World} (h : Spec P G f args (.one (.c (.v (.bool true))))) (hT : Tables G W (fun b => b < W.heap.size)) (hA : DArgs W (fun b => b < W.heap.size) args vs) :
    Calls P f vs.toArray W fun e W' => e = .returned (.bool true) ∧ Below W.heap.size W W' := by
  refine Calls.mono (h W _ vs (fun b hb => hb) hT hA) ?_
  rintro e W1 ⟨hE, u, rfl, hu⟩
  have hu : RD W1 _ (.v (.bool true)) u := hu
  cases hu
  exact ⟨rfl, below_ev hE⟩
end Go.Proofs.YtdakeodebgggfaaDoor

/- A value's form. -/
namespace Go.Proofs.YtdakeodebgggfaaDoor
open Go.RowKit
set_option linter.unusedVariables false
set_option linter.unusedSimpArgs false
set_option maxRecDepth 100000
set_option maxHeartbeats 400000
theorem form_m {G : Nat → Option (List D)} : ∀ t : Tree, ∀ cs : List D, treeC t = cs → t.wt ≤ 10000000 → Spec Tryd.prog G 46 [.g cs] (.one (.c (bytesD t.form))) := Tree.ind fun t ih cs hcs hw => by
  subst hcs
  have hf := Tree.form_wt t hw
  refine spec_of Tryd.func46 rfl rfl rfl (by kernel_rfl) rfl fun K => ?_
  rw [treeC_eq]
  cases hl : t.list with
  | false =>
    have hlh := t.wt_hint
    have hld := t.wt_data
    have h1 := textB_len (b := t.hint) (n := 10000000) (by omega) (by omega)
    have h2 := textB_len (b := t.data) (n := 10000000) (by omega) (by omega)
    (repeat' (first | with_reducible refine sound_seq_k fun Kn hK => ?_ | with_reducible refine sound_region (by kernel_rfl) ?_ | with_reducible refine sound_drawn (by kernel_rfl) (by kernel_rfl) ?_ | with_reducible refine sound_block ?_ | with_reducible refine sound_if ?_ | with_reducible refine sound_ret ?_ | with_reducible refine sound_skip ?_ | with_reducible refine sound_exit ?_ | (with_reducible refine hK _ ?_; clear hK; clear Kn) | (clear hK; clear Kn; with_reducible refine hK _ ?_; clear hK; clear Kn) | (clear hK; clear Kn; clear hK; clear Kn; with_reducible refine hK _ ?_; clear hK; clear Kn) | (refine ⟨_, text_m t.hint (by omega), ?_⟩) | (refine ⟨_, text_m t.data (by omega), ?_⟩) | with_reducible refine ex_bytes ?_ | with_reducible refine loopU_step ?_ | with_reducible refine retO_ret ?_ ?_ | with_reducible refine retO_normal ?_ ?_ | with_reducible refine And.intro (show logOk _ _ = true by kernel_rfl) ?_ | simp (maxSteps := 10000000) (implicitDefEqProofs := false) (disch := omega) only [wrap_id, wrap8, max_r, max_l, min_r, min_l] | (with_reducible refine br_intro (fun hb => ?_) (fun hb => ?_) <;> (try simp only [hb])) | (with_reducible refine And.intro (by first | omega | (simp; done) | (simp; omega)) ?_) | simp (maxSteps := 10000000) (implicitDefEqProofs := false) only [go_sem, Nat.reduceEqDiff, Nat.reduceBEq, ↓reduceIte, Nat.reduceAdd, Nat.reduceMul, Nat.reduceSub, Nat.reduceLeDiff, Nat.reduceLT, reduceCtorEq, Int.reduceLE, Int.reduceLT, Int.reduceToNat, Int.reduceBEq, List.length_map] | fail))
    all_goals
      rw [t.form_eq, hl]
      simp only [Tree.atomF, hb]
      simp [bytesD, bD, Nat.add_comm, Nat.add_left_comm, Nat.add_assoc]
  | true =>
    have hfe := t.form_eq
    rw [hl] at hfe
    have hfl : ∀ k, (((t.kids.take k).map Tree.form).flatten).length ≤ t.form.length := fun k => by
      rw [hfe]
      simp only [if_true, List.length_append, List.length_flatten, List.map_map, Function.comp_def]
      have := sum_upto (l := t.kids) (k := k) fun x => x.form.length
      omega
    (repeat' (first | with_reducible refine sound_seq_k fun Kn hK => ?_ | with_reducible refine sound_region (by kernel_rfl) ?_ | with_reducible refine sound_drawn (by kernel_rfl) (by kernel_rfl) ?_ | with_reducible refine sound_block ?_ | with_reducible refine sound_if ?_ | with_reducible refine sound_ret ?_ | with_reducible refine sound_skip ?_ | with_reducible refine sound_exit ?_ | (with_reducible refine hK _ ?_; clear hK; clear Kn) | (clear hK; clear Kn; with_reducible refine hK _ ?_; clear hK; clear Kn) | (clear hK; clear Kn; clear hK; clear Kn; with_reducible refine hK _ ?_; clear hK; clear Kn) | fail | with_reducible refine ex_bytes ?_ | with_reducible refine loopU_step ?_ | with_reducible refine retO_ret ?_ ?_ | with_reducible refine retO_normal ?_ ?_ | with_reducible refine And.intro (show logOk _ _ = true by kernel_rfl) ?_ | simp (maxSteps := 10000000) (implicitDefEqProofs := false) (disch := omega) only [wrap_id, wrap8, max_r, max_l, min_r, min_l] | (with_reducible refine br_intro (fun hb => ?_) (fun hb => ?_) <;> (try simp only [hb])) | (with_reducible refine And.intro (by first | omega | (simp; done) | (simp; omega)) ?_) | simp (maxSteps := 10000000) (implicitDefEqProofs := false) only [go_sem, Nat.reduceEqDiff, Nat.reduceBEq, ↓reduceIte, Nat.reduceAdd, Nat.reduceMul, Nat.reduceSub, Nat.reduceLeDiff, Nat.reduceLT, reduceCtorEq, Int.reduceLE, Int.reduceLT, Int.reduceToNat, Int.reduceBEq, true_and] | fail))
    refine sound_loopR (fun x : {k : Nat // k ≤ t.kids.length} => ⟨[(1, vP 1 0), (3, vR 1000 1 (1 + (((t.kids.take x.1).map Tree.form).flatten).length)), (13, vI t.kids.length), (14, vI x.1)], [(1, some ⟨25, treeK t, true, false⟩), (1000, some ⟨5, ((40 :: ((t.kids.take x.1).map Tree.form).flatten).map bD).map C.d, false, false⟩)]⟩) (fun x => t.kids.length - x.1) ⟨0, by omega⟩ [(1000, 10)] (by (simp (maxSteps := 10000000) (implicitDefEqProofs := false) only [go_sem, Nat.reduceEqDiff, Nat.reduceBEq, ↓reduceIte, Nat.reduceAdd, Nat.reduceMul, Nat.reduceSub, Nat.reduceLeDiff, Nat.reduceLT, reduceCtorEq, Int.reduceLE, Int.reduceLT, Int.reduceToNat, Int.reduceBEq, hl]); (try simp (maxSteps := 10000000) (implicitDefEqProofs := false) (disch := omega) only [wrap_id, wrap8, max_r, max_l, min_r, min_l]); (try simp (maxSteps := 10000000) (implicitDefEqProofs := false) only [go_sem, Nat.reduceEqDiff, Nat.reduceBEq, ↓reduceIte, Nat.reduceAdd, Nat.reduceMul, Nat.reduceSub, Nat.reduceLeDiff, Nat.reduceLT, reduceCtorEq, Int.reduceLE, Int.reduceLT, Int.reduceToNat, Int.reduceBEq, hl]); simp [bD, C.ren]) (fun ⟨k, hk⟩ => ?_)
    have h5 := t.wt_kids
    have h6 := hfl k
    by_cases hlt : k < t.kids.length
    · obtain ⟨x, hx⟩ : ∃ x, t.kids[k]? = some x := ⟨_, List.getElem?_eq_getElem hlt⟩
      have hb : decide ((k : Int) < (t.kids.length : Int)) = true := by simpa using hlt
      have hm := List.mem_of_getElem? hx
      have hxw := Tree.wt_kid hm
      have h7 := Tree.form_wt x (by omega)
      (repeat' (first | with_reducible refine sound_seq_k fun Kn hK => ?_ | with_reducible refine sound_region (by kernel_rfl) ?_ | with_reducible refine sound_drawn (by kernel_rfl) (by kernel_rfl) ?_ | with_reducible refine sound_block ?_ | with_reducible refine sound_if ?_ | with_reducible refine sound_ret ?_ | with_reducible refine sound_skip ?_ | with_reducible refine sound_exit ?_ | (with_reducible refine hK _ ?_; clear hK; clear Kn) | (clear hK; clear Kn; with_reducible refine hK _ ?_; clear hK; clear Kn) | (clear hK; clear Kn; clear hK; clear Kn; with_reducible refine hK _ ?_; clear hK; clear Kn) | (refine ⟨_, ih x hm _ rfl (by omega), ?_⟩) | with_reducible refine ex_bytes ?_ | with_reducible refine loopU_step ?_ | with_reducible refine retO_ret ?_ ?_ | with_reducible refine retO_normal ?_ ?_ | with_reducible refine And.intro (show logOk _ _ = true by kernel_rfl) ?_ | simp (maxSteps := 10000000) (implicitDefEqProofs := false) (disch := omega) only [wrap_id, wrap8, max_r, max_l, min_r, min_l] | (with_reducible refine br_intro (fun hb => ?_) (fun hb => ?_) <;> (try simp only [hb])) | (with_reducible refine And.intro (by first | omega | (simp; done) | (simp; omega)) ?_) | simp (maxSteps := 10000000) (implicitDefEqProofs := false) only [go_sem, Nat.reduceEqDiff, Nat.reduceBEq, ↓reduceIte, Nat.reduceAdd, Nat.reduceMul, Nat.reduceSub, Nat.reduceLeDiff, Nat.reduceLT, reduceCtorEq, Int.reduceLE, Int.reduceLT, Int.reduceToNat, Int.reduceBEq, hb, flat_at treeC_len hx, List.length_map] | fail))
      refine ⟨[(1000, 24)], ⟨k + 1, hlt⟩, ?_⟩
      have h8 : ((t.kids.take (k + 1)).map Tree.form).flatten = ((t.kids.take k).map Tree.form).flatten ++ x.form := by
        rw [List.take_add_one, hx]
        simp
      (simp (maxSteps := 10000000) (implicitDefEqProofs := false) only [go_sem, Nat.reduceEqDiff, Nat.reduceBEq, ↓reduceIte, Nat.reduceAdd, Nat.reduceMul, Nat.reduceSub, Nat.reduceLeDiff, Nat.reduceLT, reduceCtorEq, Int.reduceLE, Int.reduceLT, Int.reduceToNat, Int.reduceBEq, h8]); (try simp (maxSteps := 10000000) (implicitDefEqProofs := false) (disch := omega) only [wrap_id, wrap8, max_r, max_l, min_r, min_l]); (try simp (maxSteps := 10000000) (implicitDefEqProofs := false) only [go_sem, Nat.reduceEqDiff, Nat.reduceBEq, ↓reduceIte, Nat.reduceAdd, Nat.reduceMul, Nat.reduceSub, Nat.reduceLeDiff, Nat.reduceLT, reduceCtorEq, Int.reduceLE, Int.reduceLT, Int.reduceToNat, Int.reduceBEq, h8])
      simp [Nat.add_assoc]
      omega
    · have hb : decide ((k : Int) < (t.kids.length : Int)) = false := by simpa using hlt
      obtain rfl : k = t.kids.length := by omega
      rw [List.take_length] at h6
      (repeat' (first | with_reducible refine sound_seq_k fun Kn hK => ?_ | with_reducible refine sound_region (by kernel_rfl) ?_ | with_reducible refine sound_drawn (by kernel_rfl) (by kernel_rfl) ?_ | with_reducible refine sound_block ?_ | with_reducible refine sound_if ?_ | with_reducible refine sound_ret ?_ | with_reducible refine sound_skip ?_ | with_reducible refine sound_exit ?_ | (with_reducible refine hK _ ?_; clear hK; clear Kn) | (clear hK; clear Kn; with_reducible refine hK _ ?_; clear hK; clear Kn) | (clear hK; clear Kn; clear hK; clear Kn; with_reducible refine hK _ ?_; clear hK; clear Kn) | fail | with_reducible refine ex_bytes ?_ | with_reducible refine loopU_step ?_ | with_reducible refine retO_ret ?_ ?_ | with_reducible refine retO_normal ?_ ?_ | with_reducible refine And.intro (show logOk _ _ = true by kernel_rfl) ?_ | simp (maxSteps := 10000000) (implicitDefEqProofs := false) (disch := omega) only [wrap_id, wrap8, max_r, max_l, min_r, min_l] | (with_reducible refine br_intro (fun hb => ?_) (fun hb => ?_) <;> (try simp only [hb])) | (with_reducible refine And.intro (by first | omega | (simp; done) | (simp; omega)) ?_) | simp (maxSteps := 10000000) (implicitDefEqProofs := false) only [go_sem, Nat.reduceEqDiff, Nat.reduceBEq, ↓reduceIte, Nat.reduceAdd, Nat.reduceMul, Nat.reduceSub, Nat.reduceLeDiff, Nat.reduceLT, reduceCtorEq, Int.reduceLE, Int.reduceLT, Int.reduceToNat, Int.reduceBEq, hb, List.take_length, List.length_map] | fail))
      rw [hfe]
      simp [bD, Nat.add_comm]
end Go.Proofs.YtdakeodebgggfaaDoor
