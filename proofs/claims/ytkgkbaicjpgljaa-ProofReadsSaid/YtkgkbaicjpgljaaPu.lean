/- The reference's get, plain: it answers exactly the put form of one line. -/
import Derived.Test.YtkgkbaicjpgljaaPv
import Derived.Test.YtkgkbaicjpgljaaPp
namespace Go.Proofs.Ytkgkbaicjpgljaa
open Go.RowKit
set_option linter.unusedVariables false

theorem gb_ub (b : List UInt8) (i : Nat) : ub ((gb b i : Nat) : Int) = b.getD i 0 := ub_toNat _
theorem gb_cons (x : UInt8) (t : List UInt8) (i : Nat) : gb (x :: t) (i + 1) = gb t i := rfl
theorem gb_zero (x : UInt8) (t : List UInt8) : gb (x :: t) 0 = x.toNat := rfl
theorem gb_app (a t : List UInt8) (i : Nat) : gb (a ++ t) (a.length + i) = gb t i := by
  unfold gb
  rw [List.getD_eq_getElem?_getD, List.getD_eq_getElem?_getD, List.getElem?_append_right (by omega), Nat.add_sub_cancel_left]
theorem take_one {b : List UInt8} {i : Nat} (h : i < b.length) : b.take (i + 1) = b.take i ++ [b.getD i 0] := by
  rw [List.take_add_one, List.getElem?_eq_getElem h, List.getD_eq_getElem?_getD, List.getElem?_eq_getElem h]
  rfl
theorem twoB_gb (b : List UInt8) (i j : Nat) : twoB ((256 * gb b i + gb b j : Nat) : Int) = [b.getD i 0, b.getD j 0] := by
  have h1 := gb_lt b i
  have h2 := gb_lt b j
  unfold twoB
  rw [show (((256 * gb b i + gb b j : Nat) : Int)) / 256 = ((gb b i : Nat) : Int) by omega, show (((256 * gb b i + gb b j : Nat) : Int)) % 256 = ((gb b j : Nat) : Int) by omega, gb_ub, gb_ub]
theorem take_refs (b : List UInt8) (q : Nat) : ∀ n, q + 2 * n ≤ b.length → b.take (q + 2 * n) = b.take q ++ ((List.range n).map fun i => ((256 * gb b (q + 2 * i) + gb b (q + 1 + 2 * i) : Nat) : Int)).flatMap twoB
  | 0, _ => by simp
  | n + 1, h => by
    have ih := take_refs b q n (by omega)
    rw [List.range_succ, List.map_append, List.flatMap_append, ← List.append_assoc, ← ih, show q + 2 * (n + 1) = q + 2 * n + 1 + 1 by omega, take_one (by omega), take_one (by omega)]
    simp only [List.map_cons, List.map_nil, List.flatMap_cons, List.flatMap_nil, List.append_nil]
    rw [twoB_gb, show q + 1 + 2 * n = q + 2 * n + 1 by omega, List.append_assoc]
    rfl
theorem refTail_sound {b : List UInt8} {l m : Line} {p k : Nat} (h : refTail b l p = some (m, k)) :
    ∃ ns : List Int, m = { l with refs := ns } ∧ ns.length ≤ 16 ∧ (∀ n ∈ ns, 0 ≤ n ∧ n ≤ 65535) ∧ k ≤ b.length ∧ p < k ∧ b.take k = b.take p ++ [ub ns.length] ++ ns.flatMap twoB := by
  unfold refTail at h
  split at h
  · cases h
  · rename_i hh
    injection h with h
    injection h with h1 h2
    subst h1 h2
    refine ⟨_, rfl, by rw [List.length_map, List.length_range]; omega, ?_, by omega, by omega, ?_⟩
    · intro n hn
      simp only [List.mem_map, List.mem_range] at hn
      obtain ⟨i, hi, rfl⟩ := hn
      have h1 := gb_lt b (p + 1 + 2 * i)
      have h2 := gb_lt b (p + 2 + 2 * i)
      omega
    · rw [take_refs b (p + 1) _ (by omega), take_one (by omega), List.length_map, List.length_range, gb_ub]
theorem take_len {a b : List UInt8} {k : Nat} (h : b.take k = a) (hk : k ≤ b.length) : a.length = k := by
  rw [← h, List.length_take]
  omega
theorem refL_sound {b : List UInt8} {l : Line} {k : Nat} (hb : 0 < b.length) (h : refL b = some (l, k)) : may l = true ∧ k ≤ b.length ∧ 0 < k ∧ b.take k = lineB l := by
  unfold refL at h
  by_cases hk : gb b 0 = 1
  · rw [if_pos hk] at h
    by_cases hn : b.length < 4
    · rw [if_pos hn] at h
      cases h
    · rw [if_neg hn] at h
      obtain ⟨ns, rfl, h1, h2, h3, h4, h5⟩ := refTail_sound h
      have l1 := gb_lt b 1
      have l2 := gb_lt b 2
      refine ⟨?_, h3, by omega, ?_⟩
      · simp only [may, if_true, inR, List.all_cons, List.all_eq_true, Bool.and_eq_true, decide_eq_true_eq]
        refine ⟨⟨⟨by omega, by omega, fun n hn => ?_⟩, by simp⟩, by simp, by simpa using h1⟩
        exact h2 n hn
      · rw [h5, show (3 : Nat) = 0 + 1 + 1 + 1 from rfl, take_one (by omega), take_one (by omega), take_one (by omega)]
        have e0 : b.getD 0 0 = 1 := UInt8.toNat_inj.1 hk
        simp only [lineB, if_true, twoB_gb, e0]
        simp
  · rw [if_neg hk] at h
    by_cases hn : (gb b 0 < 2 ∨ 4 < gb b 0) ∨ b.length < 5 ∨ 1 < gb b 1 ∨ 3 < gb b 4 ∨ b.length < 7 + gb b 4
    · rw [if_pos hn] at h
      cases h
    · rw [if_neg hn] at h
      by_cases hf : 1 < gb b (5 + gb b 4)
      · rw [if_pos hf] at h
        cases h
      · rw [if_neg hf] at h
        obtain ⟨ns, rfl, h1, h2, h3, h4, h5⟩ := refTail_sound h
        have l2 := gb_lt b 2
        have l3 := gb_lt b 3
        have hpl : ((b.drop 5).take (gb b 4)).length = gb b 4 := by rw [List.length_take, List.length_drop]; omega
        have hk1 : ¬ b.getD 0 0 = 1 := fun e => hk (by unfold gb; rw [e]; rfl)
        have hkd : gb b 0 = (b.getD 0 0).toNat := rfl
        refine ⟨?_, h3, by omega, ?_⟩
        · simp only [may, if_neg hk1, inR, List.all_cons, List.all_eq_true, Bool.and_eq_true, decide_eq_true_eq]
          refine ⟨⟨⟨by omega, by omega, fun n hn => h2 n hn⟩, by omega⟩, ⟨⟨by omega, by omega⟩, by simp⟩, h1⟩
        · have hbit : ∀ i, gb b i ≤ 1 → bitB (gb b i == 1) = b.getD i 0 := by
            intro i hi
            unfold bitB gb
            by_cases h0 : (b.getD i 0).toNat = 1
            · rw [if_pos (by simpa using h0)]; exact (UInt8.toNat_inj.1 h0).symm
            · rw [if_neg (by simpa using h0)]; exact (UInt8.toNat_inj.1 (show (b.getD i 0).toNat = 0 by unfold gb at hi; omega)).symm
          rw [h5, show 6 + gb b 4 = (5 + gb b 4) + 1 by omega, take_one (by omega), List.take_add, show (5 : Nat) = 0 + 1 + 1 + 1 + 1 + 1 from rfl, take_one (by omega), take_one (by omega), take_one (by omega), take_one (by omega), take_one (by omega)]
          simp only [lineB, if_neg hk1, twoB_gb, hpl, gb_ub]
          rw [hbit 1 (by omega), hbit (5 + gb b 4) (by omega)]
          simp
theorem gb_twoB : ∀ (ns : List Int) (t : List UInt8), (∀ n ∈ ns, 0 ≤ n ∧ n ≤ 65535) → (List.range ns.length).map (fun i => ((256 * gb (ns.flatMap twoB ++ t) (2 * i) + gb (ns.flatMap twoB ++ t) (2 * i + 1) : Nat) : Int)) = ns
  | [], _, _ => rfl
  | n :: ns, t, h => by
    have ih := gb_twoB ns t (fun m hm => h m (by simp [hm]))
    have hn := h n (by simp)
    rw [List.length_cons, List.range_succ_eq_map, List.map_cons, List.map_map]
    congr 1
    · show ((256 * (ub (n / 256)).toNat + (ub (n % 256)).toNat : Nat) : Int) = n
      rw [ub_nat (by omega) (by omega), ub_nat (by omega) (by omega)]
      omega
theorem refTail_put (a : List UInt8) (l : Line) (ns : List Int) (t : List UInt8) (h1 : ns.length ≤ 16) (h2 : ∀ n ∈ ns, 0 ≤ n ∧ n ≤ 65535) :
    refTail (a ++ ([ub ns.length] ++ (ns.flatMap twoB ++ t))) l a.length = some ({ l with refs := ns }, a.length + 1 + 2 * ns.length) := by
  have hz := gb_app a ([ub ns.length] ++ (ns.flatMap twoB ++ t)) 0
  rw [Nat.add_zero, List.singleton_append, gb_zero, ub_nat (by omega) (by omega), Int.toNat_natCast] at hz
  unfold refTail
  rw [List.singleton_append, hz, if_neg]
  · have hg : ∀ i, gb (a ++ ub ↑ns.length :: (ns.flatMap twoB ++ t)) (a.length + 1 + i) = gb (ns.flatMap twoB ++ t) i := by
      intro i
      rw [Nat.add_assoc, gb_app, Nat.add_comm 1 i, gb_cons]
    have hm := gb_twoB ns t h2
    congr 3
    refine Eq.trans ?_ hm
    refine congrArg (fun f => List.map f (List.range ns.length)) (funext fun i => ?_)
    rw [hg, show a.length + 2 + 2 * i = a.length + 1 + (2 * i + 1) by omega, hg]
  · rw [List.length_append, List.length_cons, List.length_append, flat_twoB_len]
    omega
theorem refL_put {l : Line} (h : may l = true) (t : List UInt8) : refL (lineB l ++ t) = some (l, (lineB l).length) := by
  obtain ⟨hd, hi, hr, hp, hn⟩ := may_facts h
  obtain ⟨kind, dfn, cert, index, path, flag, refs⟩ := l
  by_cases hk : kind = 1
  · subst hk
    simp only [may, if_true, Bool.and_eq_true] at h
    obtain ⟨_, ⟨⟨⟨h1, h2⟩, h3⟩, h4⟩, _⟩ := h
    simp only [Bool.not_eq_true', beq_iff_eq, List.isEmpty_iff] at h1 h2 h3 h4
    subst h1 h2 h3 h4
    simp only at hd hr hn
    have ht := refTail_put (1 :: twoB dfn) ⟨1, dfn, false, 0, [], false, []⟩ refs t hn hr
    have hb : lineB ⟨1, dfn, false, 0, [], false, refs⟩ ++ t = (1 :: twoB dfn) ++ ([ub refs.length] ++ (refs.flatMap twoB ++ t)) := by simp [lineB]
    have hl : (lineB ⟨1, dfn, false, 0, [], false, refs⟩).length = 4 + 2 * refs.length := by
      simp only [lineB, if_true, List.length_append, flat_twoB_len, twoB_len, List.length_singleton]
    rw [hl, hb]
    unfold refL
    rw [if_pos (show gb ((1 :: twoB dfn) ++ ([ub refs.length] ++ (refs.flatMap twoB ++ t))) 0 = 1 from rfl), if_neg (by simp; omega)]
    have e : ((256 * gb ((1 :: twoB dfn) ++ ([ub refs.length] ++ (refs.flatMap twoB ++ t))) 1 + gb ((1 :: twoB dfn) ++ ([ub refs.length] ++ (refs.flatMap twoB ++ t))) 2 : Nat) : Int) = dfn := by
      show ((256 * (ub (dfn / 256)).toNat + (ub (dfn % 256)).toNat : Nat) : Int) = dfn
      rw [ub_nat (by omega) (by omega), ub_nat (by omega) (by omega)]
      omega
    rw [e]
    rw [show (3 : Nat) = (1 :: twoB dfn).length from rfl, ht]
    congr 2
  · have hk1 : ¬ kind.toNat = 1 := fun e => hk (UInt8.toNat_inj.1 (by simp [e]))
    simp only [may, if_neg hk, Bool.and_eq_true, beq_iff_eq, decide_eq_true_eq] at h
    obtain ⟨_, ⟨⟨⟨h2, h4⟩, h3⟩, _⟩⟩ := h
    subst h3
    simp only at hi hr hn hp
    have hpn := ub_nat (k := (path.length : Int)) (by omega) (by omega)
    rw [Int.toNat_natCast] at hpn
    have ht := refTail_put ([kind, bitB cert] ++ twoB index ++ [ub path.length] ++ path ++ [bitB flag]) ⟨kind, 0, cert, index, path, flag, []⟩ refs t hn hr
    have hb : lineB ⟨kind, 0, cert, index, path, flag, refs⟩ ++ t = ([kind, bitB cert] ++ twoB index ++ [ub path.length] ++ path ++ [bitB flag]) ++ ([ub refs.length] ++ (refs.flatMap twoB ++ t)) := by simp [lineB, hk]
    have hl : (lineB ⟨kind, 0, cert, index, path, flag, refs⟩).length = 7 + path.length + 2 * refs.length := by
      simp only [lineB, if_neg hk, List.length_append, flat_twoB_len, twoB_len, List.length_singleton]
      omega
    have hal : ([kind, bitB cert] ++ twoB index ++ [ub path.length] ++ path ++ [bitB flag]).length = 6 + path.length := by
      simp only [List.length_append, twoB_len, List.length_cons, List.length_nil]
      omega
    rw [hal] at ht
    rw [hl, hb]
    have hlen : (([kind, bitB cert] ++ twoB index ++ [ub path.length] ++ path ++ [bitB flag]) ++ ([ub refs.length] ++ (refs.flatMap twoB ++ t))).length = 7 + path.length + 2 * refs.length + t.length := by
      rw [List.length_append, hal]
      simp only [List.length_append, flat_twoB_len, List.length_singleton]
      omega
    have g0 : gb (([kind, bitB cert] ++ twoB index ++ [ub path.length] ++ path ++ [bitB flag]) ++ ([ub refs.length] ++ (refs.flatMap twoB ++ t))) 0 = kind.toNat := by simp [gb]
    have g00 : (([kind, bitB cert] ++ twoB index ++ [ub path.length] ++ path ++ [bitB flag]) ++ ([ub refs.length] ++ (refs.flatMap twoB ++ t))).getD 0 0 = kind := by simp
    have g1 : gb (([kind, bitB cert] ++ twoB index ++ [ub path.length] ++ path ++ [bitB flag]) ++ ([ub refs.length] ++ (refs.flatMap twoB ++ t))) 1 = (bitB cert).toNat := by simp [gb]
    have g2 : gb (([kind, bitB cert] ++ twoB index ++ [ub path.length] ++ path ++ [bitB flag]) ++ ([ub refs.length] ++ (refs.flatMap twoB ++ t))) 2 = (ub (index / 256)).toNat := by simp [gb, twoB]
    have g3 : gb (([kind, bitB cert] ++ twoB index ++ [ub path.length] ++ path ++ [bitB flag]) ++ ([ub refs.length] ++ (refs.flatMap twoB ++ t))) 3 = (ub (index % 256)).toNat := by simp [gb, twoB]
    have g4 : gb (([kind, bitB cert] ++ twoB index ++ [ub path.length] ++ path ++ [bitB flag]) ++ ([ub refs.length] ++ (refs.flatMap twoB ++ t))) 4 = path.length := by simp [gb, twoB, hpn]
    have gp : ((([kind, bitB cert] ++ twoB index ++ [ub path.length] ++ path ++ [bitB flag]) ++ ([ub refs.length] ++ (refs.flatMap twoB ++ t))).drop 5).take path.length = path := by simp [twoB]
    have gf : gb (([kind, bitB cert] ++ twoB index ++ [ub path.length] ++ path ++ [bitB flag]) ++ ([ub refs.length] ++ (refs.flatMap twoB ++ t))) (5 + path.length) = (bitB flag).toNat := by
      have := gb_app ([kind, bitB cert] ++ twoB index ++ [ub path.length] ++ path) ([bitB flag] ++ ([ub refs.length] ++ (refs.flatMap twoB ++ t))) 0
      rw [Nat.add_zero, show ([kind, bitB cert] ++ twoB index ++ [ub path.length] ++ path).length = 5 + path.length by simp only [List.length_append, twoB_len, List.length_cons, List.length_nil], ← List.append_assoc] at this
      rw [this]
      rfl
    generalize ([kind, bitB cert] ++ twoB index ++ [ub path.length] ++ path ++ [bitB flag]) ++ ([ub refs.length] ++ (refs.flatMap twoB ++ t)) = b at *
    have hbt : ∀ x : Bool, (bitB x).toNat ≤ 1 ∧ ((bitB x).toNat == 1) = x := by intro x; cases x <;> exact ⟨by decide, by decide⟩
    have c1 := hbt cert
    have c2 := hbt flag
    unfold refL
    rw [if_neg (by rw [g0]; exact hk1), if_neg (by rw [g0, g1, g4, hlen]; omega), g4, gf, if_neg (by omega), g00, g1, g2, g3, gp, c1.2, c2.2, ub_nat (by omega) (by omega), ub_nat (by omega) (by omega), show ((256 * (index / 256).toNat + (index % 256).toNat : Nat) : Int) = index by omega, ht]
    congr 2
    omega
def refAll : Nat → List UInt8 → List Line → Option (List Line)
  | 0, b, acc => if b = [] then some acc else none
  | m + 1, b, acc => if b = [] then some acc else
    match refL b with
    | none => none
    | some (l, k) => if acc.length = 20000 then none else refAll m (b.drop k) (acc ++ [l])
def refGet (b : List UInt8) : Option (List Line) := refAll b.length b []
theorem refAll_sound : ∀ (m : Nat) (b : List UInt8) (acc ls : List Line), refAll m b acc = some ls → acc.length ≤ 20000 → ls.length ≤ 20000 ∧ ∃ ms, ls = acc ++ ms ∧ ms.all may = true ∧ ms.flatMap lineB = b
  | 0, b, acc, ls, h, ha => by
    rw [refAll] at h
    split at h
    · rename_i hb
      injection h with h
      subst h hb
      exact ⟨ha, [], by simp, rfl, rfl⟩
    · cases h
  | m + 1, b, acc, ls, h, ha => by
    rw [refAll] at h
    split at h
    · rename_i hb
      injection h with h
      subst h hb
      exact ⟨ha, [], by simp, rfl, rfl⟩
    · rename_i hb
      split at h
      · cases h
      · rename_i l k hl
        have hpos : 0 < b.length := List.length_pos_iff.2 hb
        obtain ⟨h1, h2, h3, h4⟩ := refL_sound hpos hl
        split at h
        · cases h
        · rename_i hn
          obtain ⟨h5, ms, rfl, h6, h7⟩ := refAll_sound m _ _ _ h (by simp; omega)
          exact ⟨h5, l :: ms, by simp, by simp [h1, h6], by rw [List.flatMap_cons, h7, ← h4, List.take_append_drop]⟩
theorem refAll_put : ∀ (ms : List Line), ms.all may = true → ∀ (m : Nat) (acc : List Line), (ms.flatMap lineB).length ≤ m → acc.length + ms.length ≤ 20000 → refAll m (ms.flatMap lineB) acc = some (acc ++ ms)
  | [], _, m, acc, _, _ => by cases m <;> simp [refAll]
  | l :: ms, h, m, acc, hm, ha => by
    simp only [List.all_cons, Bool.and_eq_true] at h
    have hp := lineB_pos l
    simp only [List.flatMap_cons, List.length_append] at hm
    simp only [List.length_cons] at ha
    obtain ⟨m', rfl⟩ : ∃ m', m = m' + 1 := ⟨m - 1, by omega⟩
    rw [List.flatMap_cons, refAll, if_neg, refL_put h.1]
    · simp only
      rw [if_neg (by omega), List.drop_left, refAll_put ms h.2 m' (acc ++ [l]) (by omega) (by simp; omega)]
      simp
    · intro h0
      have := congrArg List.length h0
      rw [List.length_append, List.length_nil] at this
      omega
/-- The reference gets what the program gets. -/
theorem refGet_getB (b : List UInt8) : refGet b = getB b := by
  cases h : getB b with
  | some ls =>
    have hp := putB_getB h
    unfold putB at hp
    split at hp
    · rename_i hh
      injection hp with hp
      subst hp
      unfold refGet
      rw [refAll_put ls hh.2 _ [] (Nat.le_refl _) (by simpa using hh.1)]
      rfl
    · cases hp
  | none =>
    cases hr : refGet b with
    | none => rfl
    | some ls =>
      obtain ⟨h1, ms, rfl, h2, h3⟩ := refAll_sound _ _ _ _ hr (by simp)
      have hp : putB ls = some b := by
        unfold putB
        rw [if_pos ⟨h1, h2⟩, h3]
      rw [getB_putB hp] at h
      cases h
end Go.Proofs.Ytkgkbaicjpgljaa
