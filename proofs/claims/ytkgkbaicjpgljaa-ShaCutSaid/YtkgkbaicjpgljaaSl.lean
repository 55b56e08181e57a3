/- The reference of the sums: its tables, what is filled up, rows joined. -/
import Derived.Test.YtkgkbaicjpgljaaSk
namespace Go.Proofs.Ytkgkbaicjpgljaa
open Go.RowKit Go.Lib
set_option linter.unusedVariables false

section
variable {P : Program} {w : World} {ops : Array Oper} {rest : List Oper} {o : Oper} {a : Act} {Q : Exit → Act → World → Prop}
theorem halt_build {ty : TypeId} {parts : Array (Nat × Operand)} (ho : o.op = .build ty parts) (h : HaltedO (wpList P ops Q (o :: rest) a w)) : wpList P ops Q (o :: rest) a w := haltO h
theorem wpList_buildE (hg : o.guard = none) (t : TypeId) (parts : Array (Nat × Operand)) (ho : o.op = .build t parts) (cells : Array Value) (hb : P.built t (parts.map fun (i, x) => (i, a.eval x)).toList = some cells)
    (h : wpList P ops Q rest (a.put o.dst (.agg cells)) w) : wpList P ops Q (o :: rest) a w := by
  refine wpList_build hg t parts ho (by rw [hb]; rfl) ?_
  rw [hb]
  exact h
end

def TablePost (xs : List Nat) (w : World) (e : Ending) (w' : World) : Prop := e = .returned (.agg (wcells xs)) ∧ Below w.heap.size w w'

set_option maxHeartbeats 1000000 in
set_option maxRecDepth 100000 in
theorem reffirst_c (w : World) : Calls Try.prog 34 #[] w (TablePost firstL w) := by
  have z8 := (zero_of_info (P := Try.prog) (t := 68) (v := .agg (wcells (zeros 8))) (n := 8) (by kernel_rfl)).1
  go_enter Try.func34, Try.ntmps34
  go_wp2_with (refine halt_store (ty := 68) rfl ?_)
  refine go_onO (wpList_storeR rfl _ _ _ rfl w.heap.size (wcells firstL) rfl rfl (box_new w _ _) (by kernel_rfl) (by rw [wcells_size, zeros_len]; rfl) (wcells_one _) ?_)
  intro w9 hQ9 hg9 hs9
  go_wp2
  refine bodyPost_ret (results_cell_row rfl _ _ w.heap.size 68 (wcells firstL) (0, 0) _ rfl hQ9 Try.underlying68 rfl (by kernel_rfl)) rfl ?_
  exact ⟨rfl, ((Below.refl _ _).alloc (Nat.le_refl _) _).grown hg9 (by simp) (fun k e => by injection e; omega)⟩

set_option maxHeartbeats 1000000 in
set_option maxRecDepth 100000 in
theorem refconst_c (w : World) : Calls Try.prog 35 #[] w (TablePost constL w) := by
  have z80 := (zero_of_info (P := Try.prog) (t := 70) (v := .agg (wcells (zeros 80))) (n := 80) (by kernel_rfl)).1
  go_enter Try.func35, Try.ntmps35
  go_wp2_with (refine halt_build (ty := 70) rfl ?_)
  refine go_onO (wpList_buildE rfl _ _ rfl (wcells constL) (by kernel_rfl) ?_)
  go_wp2_with (refine halt_store (ty := 70) rfl ?_)
  refine go_onO (wpList_storeR rfl _ _ _ rfl w.heap.size (wcells constL) rfl rfl (box_new w _ _) (by kernel_rfl) (by rw [wcells_size, zeros_len]; rfl) (wcells_one _) ?_)
  intro w9 hQ9 hg9 hs9
  go_wp2
  refine bodyPost_ret (results_cell_row rfl _ _ w.heap.size 70 (wcells constL) (0, 0) _ rfl hQ9 Try.underlying70 rfl (by kernel_rfl)) rfl ?_
  exact ⟨rfl, ((Below.refl _ _).alloc (Nat.le_refl _) _).grown hg9 (by simp) (fun k e => by injection e; omega)⟩

set_option maxHeartbeats 1000000 in
theorem join_c (l : List (List UInt8)) (A : Option Addr) (n c : Nat) (w : World) (hs : Rep.u8.slice.sl w (fun b => b < w.heap.size) A n c l) (hl : l.flatten.length ≤ 1000000000) :
    Calls Try.prog 22 #[.slice A n c] w (OwnPost w l.flatten) := by
  have HN := Lib.hid hs.1
  have hnc := hs.2.1
  have hcm := hs.2.2.1
  go_enter Try.func22, Try.ntmps22
  go_wp2
  go_loopw [3, 8] (fun v ix wr => ∃ (k : Nat), k ≤ n ∧ ix = .int .i64 (k : Nat) ∧ Rep.u8.own 5 wr w.heap.size (fun _ => False) v (l.take k).flatten ∧ Below w.heap.size w wr) (fun _ ix _ => n - (intOf ix).toNat)
  case atStart => exact ⟨0, by omega, rfl, own_lit (S := fun _ => False) #[] [] rfl rfl (Nat.le_refl _) (by decide) rfl (fun _ h => h.elim) (fun i x h => by simp at h), (Below.refl _ _).alloc (Nat.le_refl _) _⟩
  case round =>
    obtain ⟨k, hk, rfl, ho, hB⟩ := hrel
    obtain ⟨Ao, co, hov, _⟩ := Rep.own_sl ho
    subst hov
    by_cases hlt : k < n
    · obtain ⟨b', o', x, es, rfl, hb', hx, ⟨A2, n2, c2, rfl, hsx⟩, hcx⟩ := Rep.sl_at (Rep.sl_below hs hB (fun _ h => h)) hlt
      have hcx0 := hcx 0 _ rfl
      rw [show (Rep.u8.slice).size = 1 from rfl, Nat.mul_one, Nat.add_zero] at hcx0
      have HF : Hid ((l.take (k + 1)).flatten = (l.take k).flatten ++ x) := by
        show _ = _
        rw [List.take_add_one, hx, List.flatten_append]
        simp
      have hle : (l.take k).flatten.length + n2 ≤ 1000000000 := by
        have h1 : (l.take (k + 1)).flatten.length ≤ l.flatten.length := by
          conv => rhs; rw [← List.take_append_drop (k + 1) l, List.flatten_append, List.length_append]
          omega
        rw [HF.out, List.length_append, hsx.1] at h1
        omega
      have hbz := hB.size
      clear hcx hx
      generalize (l.take k).flatten = m at *
      go_wp2_with (at_builtin; refine halt ?_)
      refine go_on (wpList_appF rfl flat_u8 TU _ _ rfl (by rfl) ho (by rfl) hsx (by omega) (by omega) hbz (fun _ h => h.elim) ?_)
      intro v5 w5 ho5 hg5 _
      have hB5 := below_app hB ho hg5 (Nat.le_refl _)
      rw [← HF.out] at ho5
      clear ho hB hg5 hsx hcx0
      go_wp2
      go_roundw
      case rel => exact ⟨k + 1, by omega, by go_num, ho5, hB5⟩
      case measure => simp [intOf] <;> omega
    · have hke : k = n := by omega
      have hfl : (l.take k).flatten = l.flatten := by rw [hke, ← HN.out, List.take_length]
      have HFL := Lib.hid hfl
      clear hfl hke
      go_wp2
      go_ret
      refine ⟨.slice Ao (l.take k).flatten.length co, rfl, ?_, hB⟩
      rw [HFL.out] at ho ⊢
      exact ho
end Go.Proofs.Ytkgkbaicjpgljaa
