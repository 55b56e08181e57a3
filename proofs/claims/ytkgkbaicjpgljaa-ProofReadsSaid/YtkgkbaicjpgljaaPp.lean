/- The package proof, plain: what is put is read as it was. -/
import Derived.Test.YtkgkbaicjpgljaaPh
namespace Go.Proofs.Ytkgkbaicjpgljaa
set_option linter.unusedVariables false

theorem oneR_cons (b : UInt8) (t : List UInt8) (s : Bool) : oneR (b :: t, s) = (b.toNat, (t, s)) := rfl
theorem ub_nat {k : Int} (h0 : 0 ≤ k) (h1 : k ≤ 255) : (ub k).toNat = k.toNat := by
  have := ub_val h0 h1
  omega
theorem ub_toNat (b : UInt8) : ub (b.toNat : Int) = b := by
  have := ub_val (k := (b.toNat : Int)) (by omega) (by have := UInt8.toNat_lt b; omega)
  exact UInt8.toNat_inj.1 (by omega)
theorem twoR_two {n : Int} (h0 : 0 ≤ n) (h1 : n ≤ 65535) (t : List UInt8) (s : Bool) : twoR (twoB n ++ t, s) = (n.toNat, (t, s)) := by
  unfold twoR twoB
  simp only [List.cons_append, List.nil_append, oneR_cons]
  rw [ub_nat (by omega) (by omega), ub_nat (by omega) (by omega)]
  congr 1
  omega
theorem refsR_put : ∀ (ns : List Int), (∀ n ∈ ns, 0 ≤ n ∧ n ≤ 65535) → ∀ (t : List UInt8) (acc : List Int), refsR ns.length (ns.flatMap twoB ++ t, false) acc = (acc ++ ns, (t, false))
  | [], _, t, acc => by simp [refsR]
  | n :: ns, h, t, acc => by
    have hn := h n (by simp)
    rw [List.length_cons, refsR, if_neg (by simp), List.flatMap_cons, List.append_assoc, twoR_two hn.1 hn.2]
    simp only
    rw [refsR_put ns (fun m hm => h m (by simp [hm])), Int.toNat_of_nonneg hn.1]
    simp
theorem lineR_put {l : Line} (h : may l = true) (t : List UInt8) : lineR (lineB l ++ t, false) = (l, (t, false)) := by
  obtain ⟨hd, hi, hr, hp, hn⟩ := may_facts h
  have hrf := refsR_put l.refs hr t []
  have hnn := ub_nat (k := (l.refs.length : Int)) (by omega) (by omega)
  rw [Int.toNat_natCast] at hnn
  obtain ⟨kind, dfn, cert, index, path, flag, refs⟩ := l
  unfold lineB lineR
  by_cases hk : kind = 1
  · subst hk
    simp only [may, if_true, Bool.and_eq_true] at h
    obtain ⟨_, ⟨⟨⟨h1, h2⟩, h3⟩, h4⟩, _⟩ := h
    simp only [Bool.not_eq_true', beq_iff_eq, List.isEmpty_iff] at h1 h2 h3 h4
    subst h1 h2 h3 h4
    simp only [if_true, List.append_assoc, List.cons_append, List.nil_append, oneR_cons]
    rw [twoR_two hd.1 hd.2]
    simp only [oneR_cons]
    simp only at hnn hrf
    rw [hnn, hrf]
    simp [Int.toNat_of_nonneg hd.1]
  · have hk1 : ¬ kind.toNat = 1 := fun e => hk (UInt8.toNat_inj.1 (by simp [e]))
    simp only [may, if_neg hk, Bool.and_eq_true, beq_iff_eq, decide_eq_true_eq] at h
    obtain ⟨_, ⟨⟨_, _⟩, h3⟩, _⟩ := h
    subst h3
    have hpn := ub_nat (k := (path.length : Int)) (by omega) (by simp only at hp; omega)
    rw [Int.toNat_natCast] at hpn
    simp only [if_neg hk, List.append_assoc, List.cons_append, List.nil_append, oneR_cons, if_neg hk1]
    simp only at hi
    rw [twoR_two hi.1 hi.2]
    simp only [oneR_cons, hpn]
    have htk : takeR (path ++ bitB flag :: ub ↑refs.length :: (refs.flatMap twoB ++ t), false) path.length = (path, (bitB flag :: ub ↑refs.length :: (refs.flatMap twoB ++ t), false)) := by
      unfold takeR
      rw [if_neg (by simp)]
      simp
    rw [htk]
    simp only [oneR_cons]
    simp only at hnn hrf
    rw [hnn, hrf]
    simp only [ub_toNat, Int.toNat_of_nonneg hi.1, List.nil_append]
    cases cert <;> cases flag <;> simp [bitB]
theorem lineB_pos (l : Line) : 0 < (lineB l).length := by unfold lineB; simp
theorem readAll_put : ∀ (ls : List Line), ls.all may = true → ∀ (m : Nat) (acc : List Line), (ls.flatMap lineB).length ≤ m → acc.length + ls.length ≤ 20001 → readAll m (ls.flatMap lineB, false) acc = (acc ++ ls, ([], false))
  | [], _, m, acc, _, _ => by cases m <;> simp [readAll]
  | l :: ls, h, m, acc, hm, ha => by
    simp only [List.all_cons, Bool.and_eq_true] at h
    have hp := lineB_pos l
    simp only [List.flatMap_cons, List.length_append] at hm
    simp only [List.length_cons] at ha
    obtain ⟨m', rfl⟩ : ∃ m', m = m' + 1 := ⟨m - 1, by omega⟩
    rw [List.flatMap_cons, readAll, if_neg, lineR_put h.1]
    · simp only
      rw [readAll_put ls h.2 m' (acc ++ [l]) (by omega) (by simp; omega)]
      simp
    · rintro (h0 | h0)
      · have := congrArg List.length h0
        rw [List.length_append, List.length_nil] at this
        omega
      · omega
/-- What is put is got as it was. -/
theorem getB_putB {ls : List Line} {b : List UInt8} (h : putB ls = some b) : getB b = some ls := by
  have h' := h
  unfold putB at h
  split at h
  · rename_i hh
    injection h with h
    subst h
    unfold getB
    rw [readAll_put ls hh.2 _ [] (Nat.le_refl _) (by simp; omega)]
    simp only [List.nil_append]
    rw [if_pos ⟨h', trivial⟩]
  · cases h
theorem putB_getB {ls : List Line} {b : List UInt8} (h : getB b = some ls) : putB ls = some b := by
  unfold getB at h
  simp only at h
  split at h
  · rename_i hh
    injection h with h
    subst h
    exact hh.1
  · cases h
end Go.Proofs.Ytkgkbaicjpgljaa
