/- Principals, in plain Lean: of which value one is got. -/
import Derived.Test.YtdakeodebgggfaaDoorUd
namespace Go.Proofs.YtdakeodebgggfaaDoor
set_option linter.unusedVariables false

def Tree.kid (t : Tree) (i : Nat) : Tree := t.kids.getD i zeroT
theorem Tree.kid_at {t x : Tree} {i : Nat} (h : t.kids[i]? = some x) : t.kid i = x := by simp [Tree.kid, h]
def plainB (t : Tree) (n : Nat) : Bool := !t.list && !t.hinted && t.data.length == n
/-- The document's way. -/
def rgetK (v : Tree) : Option (Bool × List UInt8) :=
  if headB v tHash && v.kids.length == 3 && isB (v.kid 1) tSha && plainB (v.kid 2) 64 then some (true, (v.kid 2).data)
  else if headB v tPub && v.kids.length == 2 && headB (v.kid 1) tEd && (v.kid 1).kids.length == 2 && plainB ((v.kid 1).kid 1) 32 then some (false, ((v.kid 1).kid 1).data) else none
/-- The program's way. -/
def candK (v : Tree) : Option (Bool × List UInt8) :=
  if v.kids.length == 3 then some (true, (v.kid 2).data) else if v.kids.length == 2 && (v.kid 1).kids.length == 2 then some (false, ((v.kid 1).kid 1).data) else none
noncomputable def getK (v : Tree) : Option (Bool × List UInt8) :=
  match candK v with
  | some k => if keyErr k.1 k.2 == 0 && v.same (keyOut k.1 k.2) then some k else none
  | none => none

theorem Tree.clean_parts {t : Tree} (h : t.clean = true) : t.fair = true ∧ ∀ x ∈ t.kids, x.clean = true := by
  rw [Tree.clean_eq, Bool.and_eq_true, List.all_eq_true] at h
  exact h
theorem fair_atom {t : Tree} (h : t.fair = true) (hl : t.list = false) (hh : t.hinted = false) : t = atomT t.data := by
  rw [Tree.fair, hl, hh] at h
  simp at h
  rw [Tree.eta t, hl, hh]
  simp [atomT, h, Tree.data]
theorem fair_list {t : Tree} (h : t.fair = true) (hl : t.list = true) : t = listT t.kids := by
  rw [Tree.fair, hl] at h
  simp at h
  rw [Tree.eta t, hl]
  simp [listT, h, Tree.kids]
theorem isB_iff {t : Tree} {s : List UInt8} (h : t.fair = true) : isB t s = true ↔ t = atomT s := by
  constructor
  · intro hi
    simp [isB] at hi
    obtain ⟨⟨h1, h2⟩, h3⟩ := hi
    rw [fair_atom h h1 h2, h3]
  · rintro rfl
    simp [isB, atomT, Tree.list, Tree.hinted, Tree.data]
theorem plainB_iff {t : Tree} {n : Nat} (h : t.fair = true) : plainB t n = true ↔ t = atomT t.data ∧ t.data.length = n := by
  constructor
  · intro hi
    simp [plainB] at hi
    obtain ⟨⟨h1, h2⟩, h3⟩ := hi
    exact ⟨fair_atom h h1 h2, h3⟩
  · rintro ⟨h1, h2⟩
    rw [h1] at h2 ⊢
    simp [plainB, atomT, Tree.list, Tree.hinted, Tree.data] at h2 ⊢
    exact h2
theorem headB_iff {t : Tree} {s : List UInt8} (h : t.clean = true) : headB t s = true ↔ ∃ l, t = listT (atomT s :: l) := by
  obtain ⟨hf, hk⟩ := Tree.clean_parts h
  constructor
  · intro hi
    rw [headB, Bool.and_eq_true] at hi
    obtain ⟨h1, h2⟩ := hi
    have ht := fair_list hf h1
    cases hq : t.kids with
    | nil => rw [hq] at h2; cases h2
    | cons x l =>
      rw [hq] at h2
      have hx := (isB_iff (Tree.clean_parts (hk x (by rw [hq]; simp))).1).1 h2
      exact ⟨l, by rw [ht, hq, hx]⟩
  · rintro ⟨l, rfl⟩
    simp [headB, isB, listT, atomT, Tree.list, Tree.kids, Tree.hinted, Tree.data]
theorem Tree.kid_clean {t : Tree} (h : t.clean = true) {i : Nat} (hi : i < t.kids.length) : (t.kid i).clean = true := by
  have : t.kid i = t.kids[i] := Tree.kid_at (List.getElem?_eq_getElem hi)
  rw [this]
  exact (Tree.clean_parts h).2 _ (List.getElem_mem hi)

theorem keyMay_err {s : Bool} {d : List UInt8} : (keyErr s d == 0) = keyMay s d := by
  rw [keyErr]
  cases keyMay s d <;> rfl
theorem candK_keyV (s : Bool) (d : List UInt8) : candK (keyV s d) = some (s, d) := by
  cases s <;> rfl
theorem getK_iff {v : Tree} {s : Bool} {d : List UInt8} : getK v = some (s, d) ↔ keyMay s d = true ∧ v = keyV s d := by
  unfold getK
  constructor
  · intro h
    cases hc : candK v with
    | none => rw [hc] at h; cases h
    | some k =>
      rw [hc] at h
      dsimp only at h
      split at h
      · rename_i hq
        injection h with h
        subst h
        rw [Bool.and_eq_true, keyMay_err, Tree.same_true] at hq
        obtain ⟨h1, h2⟩ := hq
        refine ⟨h1, ?_⟩
        rw [h2, keyOut, h1]
        rfl
      · cases h
  · rintro ⟨h1, rfl⟩
    rw [candK_keyV]
    dsimp only
    rw [keyMay_err, h1, keyOut, h1]
    simp [Tree.same_refl]
theorem rgetK_iff {v : Tree} (hv : v.clean = true) {s : Bool} {d : List UInt8} : rgetK v = some (s, d) ↔ keyMay s d = true ∧ v = keyV s d := by
  unfold rgetK
  constructor
  · intro h
    split at h
    · rename_i hq
      injection h with h
      injection h with h1 h2
      subst h1 h2
      simp only [Bool.and_eq_true, beq_iff_eq] at hq
      obtain ⟨⟨⟨a1, a2⟩, a3⟩, a4⟩ := hq
      obtain ⟨l, rfl⟩ := (headB_iff hv).1 a1
      have b1 := (isB_iff (Tree.clean_parts (Tree.kid_clean hv (i := 1) (by omega))).1).1 a3
      have b2 := (plainB_iff (Tree.clean_parts (Tree.kid_clean hv (i := 2) (by omega))).1).1 a4
      match l, a2, b1, b2 with
      | [x, y], _, b1, b2 =>
        have c1 : x = atomT tSha := b1
        have c2 : y = atomT y.data ∧ y.data.length = 64 := b2
        refine ⟨?_, ?_⟩
        · show (if true = true then y.data.length == 64 else _) = true
          rw [if_pos rfl, c2.2]
          rfl
        · show listT [atomT tHash, x, y] = listT [atomT tHash, atomT tSha, atomT y.data]
          rw [c1, ← c2.1]
    · split at h
      · rename_i hq
        injection h with h
        injection h with h1 h2
        subst h1 h2
        simp only [Bool.and_eq_true, beq_iff_eq] at hq
        obtain ⟨⟨⟨⟨a1, a2⟩, a3⟩, a4⟩, a5⟩ := hq
        obtain ⟨l, rfl⟩ := (headB_iff hv).1 a1
        have hk := Tree.kid_clean hv (i := 1) (by omega)
        obtain ⟨m, hm⟩ := (headB_iff hk).1 a3
        rw [hm] at a4 a5 hk
        have b2 := (plainB_iff (Tree.clean_parts (Tree.kid_clean hk (i := 1) (by omega))).1).1 a5
        match l, a2, m, a4, hm, b2 with
        | [x], _, [y], _, hm, b2 =>
          have c1 : x = listT [atomT tEd, y] := hm
          have c2 : y = atomT y.data ∧ y.data.length = 32 := b2
          have e : (Tree.kid (Tree.kid (listT [atomT tPub, x]) 1) 1).data = y.data := by
            show (x.kid 1).data = _
            rw [c1]
            rfl
          rw [e]
          refine ⟨?_, ?_⟩
          · show (if false = true then _ else y.data.length == 32) = true
            rw [if_neg (by simp), c2.2]
            rfl
          · show listT [atomT tPub, x] = listT [atomT tPub, listT [atomT tEd, atomT y.data]]
            rw [c1, ← c2.1]
      · cases h
  · rintro ⟨h1, rfl⟩
    cases s
    · have h2 : d.length = 32 := by simpa [keyMay] using h1
      have e1 : headB (keyV false d) tHash = false := by simp [keyV, headB, isB, listT, atomT, Tree.list, Tree.kids, Tree.hinted, Tree.data, tPub, tHash]
      have e2 : headB (keyV false d) tPub = true := by simp [keyV, headB, isB, listT, atomT, Tree.list, Tree.kids, Tree.hinted, Tree.data]
      have e3 : headB ((keyV false d).kid 1) tEd = true := by simp [keyV, Tree.kid, headB, isB, listT, atomT, Tree.list, Tree.kids, Tree.hinted, Tree.data]
      have e4 : plainB (((keyV false d).kid 1).kid 1) 32 = true := by simp [keyV, Tree.kid, plainB, listT, atomT, Tree.list, Tree.kids, Tree.hinted, Tree.data, h2]
      rw [e1, e2, e3, e4]
      rfl
    · have h2 : d.length = 64 := by simpa [keyMay] using h1
      have e1 : headB (keyV true d) tHash = true := by simp [keyV, headB, isB, listT, atomT, Tree.list, Tree.kids, Tree.hinted, Tree.data]
      have e3 : isB ((keyV true d).kid 1) tSha = true := by simp [keyV, Tree.kid, isB, listT, atomT, Tree.list, Tree.kids, Tree.hinted, Tree.data]
      have e4 : plainB ((keyV true d).kid 2) 64 = true := by simp [keyV, Tree.kid, plainB, listT, atomT, Tree.list, Tree.kids, Tree.hinted, Tree.data, h2]
      rw [e1, e3, e4]
      rfl
theorem rgetK_eq {v : Tree} (hv : v.clean = true) : rgetK v = getK v := by
  cases h : getK v with
  | some k => exact (rgetK_iff hv).2 (getK_iff.1 h)
  | none =>
    cases h' : rgetK v with
    | none => rfl
    | some k =>
      have := getK_iff.2 ((rgetK_iff (s := k.1) (d := k.2) hv).1 h')
      rw [h] at this
      cases this
end Go.Proofs.YtdakeodebgggfaaDoor
