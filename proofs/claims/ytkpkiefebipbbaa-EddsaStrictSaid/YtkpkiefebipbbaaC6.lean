/- Parts of the proof, laid together. -/
import Derived.Test.YtkpkiefebipbbaaC5
set_option linter.unusedVariables false
set_option linter.unusedSimpArgs false
set_option maxRecDepth 100000
set_option maxHeartbeats 8000000
/- A product and a sum: the walk. -/
namespace Go.Proofs.Ytkpkiefebipbbaa
open Go.RowKit
@[go_sem] theorem ty_65 : tyok Try.prog 92 = true := by kernel_rfl
@[go_sem] theorem kd_65 : kdOf Try.prog 92 = Kd.arr 65 5 := by kernel_rfl
@[go_sem] theorem ze_65 : zeroOf Try.prog 92 = List.replicate 65 (C.d (.v (.int .u8 0))) := by kernel_rfl
theorem bytesC_get {l : List UInt8} {k : Nat} {x : UInt8} (h : l[k]? = some x) : ((l.map bD).map C.d)[k]? = some (C.d (D.v (.int .u8 (x.toNat : Int)))) := by
  rw [List.getElem?_map, List.getElem?_map, h]
  rfl
theorem pow_8 : (2 : Nat) ^ min 8 64 = 256 := by decide
theorem shr_8 {t : Nat} : (t : Int).fdiv (2 ^ min 8 64) = ((t / 256 : Nat) : Int) := by
  show (t : Int).fdiv 256 = _
  rw [Int.fdiv_eq_ediv_of_nonneg _ (by decide)]
  rfl
def maF (a b c : List UInt8) : Nat := (leV a * leV b + leV c) % lQ
theorem mulAdd_m {G : Nat → Option (List D)} (a b c : List UInt8) (la : a.length = 32) (lb : b.length = 32) (lc : c.length = 32) : Spec Try.prog G 29 [.g (a.map bD), .g (b.map bD), .g (c.map bD)] (.one (.g ((leB (maF a b c)).map bD))) := by
  have hR := fun (r : List UInt8) (h : r.length = 65) => reduce_m (G := G) r (by omega)
  unfold bytesD at hR
  have hA := leV_lt a
  have hB := leV_lt b
  have hC := leV_lt c
  rw [la] at hA
  rw [lb] at hB
  rw [lc] at hC
  have hatA := fun i (y : UInt8) (h : a[i]? = some y) => leV_at h
  have hatB := fun i (y : UInt8) (h : b[i]? = some y) => leV_at h
  have hend : accV (leV a) (leV b) (leV c) 32 % lQ = maF a b c := by
    rw [accV, Nat.mod_eq_of_lt hA, maF, Nat.add_comm]
  have hz := InA.zero (A := leV a) (B := leV b) lc
  have hcp : (c.map bD).map C.d ++ List.replicate 33 (C.d (.v (.int .u8 0))) = (((c ++ List.replicate 33 0).map bD).map C.d) := by
    rw [List.map_append, List.map_append, List.map_replicate, List.map_replicate]
    rfl
  have HB := Lib.hid hB
  have HC := Lib.hid hC
  clear hA hB hC
  generalize leV a = A at *
  generalize leV b = B at *
  generalize leV c = Cn at *
  generalize maF a b c = Rn at *
  have hln := leB_len Rn
  generalize hout : leB Rn = out at *
  obtain ⟨a1, a2, a3⟩ := cd_facts (l := a.map bD) (n := 32) (by rw [List.length_map]; exact la)
  obtain ⟨b1, b2, b3⟩ := cd_facts (l := b.map bD) (n := 32) (by rw [List.length_map]; exact lb)
  obtain ⟨c1, c2, c3⟩ := cd_facts (l := c.map bD) (n := 32) (by rw [List.length_map]; exact lc)
  refine spec_of Try.func29 rfl rfl rfl (by kernel_rfl) rfl fun K => ?_
  (repeat' (first | with_reducible (first | refine zA fun Kn hK => ?_ | refine zB (by kernel_rfl) ?_ | refine zC (by kernel_rfl) (by kernel_rfl) ?_ | refine zD ?_ | refine zN ?_ | refine zF ?_ | refine zG ?_ | refine zH ?_ | (refine hK _ ?_; clear hK Kn) | (clear hK Kn; refine hK _ ?_; clear hK Kn) | (clear hK Kn; clear hK Kn; refine hK _ ?_; clear hK Kn)) | fail | with_reducible (first | refine zI ?_ | refine zJ ?_ | refine zK ?_ ?_ | refine zL ?_ ?_ | refine And.intro (show logOk _ _ = true by kernel_rfl) ?_) | simp (maxSteps := 10000000) (disch := omega) only [wrap_id, wrap8, max_r, max_l, min_r, min_l] | (with_reducible refine zM (fun hb => ?_) (fun hb => ?_) <;> (try simp only [hb])) | (with_reducible refine And.intro (by first | omega | (simp; done) | (simp; omega)) ?_) | simp (maxSteps := 10000000) (implicitDefEqProofs := false) only [go_sem, Nat.reduceEqDiff, Nat.reduceBEq, ↓reduceIte, Nat.reduceAdd, Nat.reduceMul, Nat.reduceSub, Nat.reduceLeDiff, Nat.reduceLT, reduceCtorEq, Int.reduceLE, Int.reduceLT, Int.reduceToNat, Int.reduceBEq, setAt, List.length_map, List.length_replicate, List.drop_replicate, List.take_zero, List.nil_append, List.drop_zero, la, lb, lc, a1, a2, a3, b1, b2, b3, c1, c2, c3, hcp, List.append_nil] | fail))
  refine sound_loopR (fun x : {p : Nat × List UInt8 // p.1 ≤ 32 ∧ InA A B Cn p.1 p.2} => ⟨[(3, vP 3 0), (4, vP 4 0), (5, vP 5 0), (6, vP 6 0), (7, vP 7 0), (19, .a (.agg ((a.map bD).map C.d))), (20, vI x.1.1)], [(3, some ⟨25, (a.map bD).map C.d, true, false⟩), (4, some ⟨25, (b.map bD).map C.d, true, false⟩), (5, some ⟨25, (c.map bD).map C.d, true, false⟩), (6, some ⟨25, zeroOf Try.prog 25, true, false⟩), (7, some ⟨92, (x.1.2.map bD).map C.d, true, false⟩)]⟩) (fun x => 32 - x.1.1) ⟨(0, c ++ List.replicate 33 0), by omega, hz⟩ [] (by (iterate 2 ((try simp (maxSteps := 10000000) (implicitDefEqProofs := false) only [go_sem, Nat.reduceEqDiff, Nat.reduceBEq, ↓reduceIte, Nat.reduceAdd, Nat.reduceMul, Nat.reduceSub, Nat.reduceLeDiff, Nat.reduceLT, reduceCtorEq, Int.reduceLE, Int.reduceLT, Int.reduceToNat, Int.reduceBEq, show min 32 65 = 32 from rfl, c1, c2, lc, List.length_map, hcp]); (try simp (maxSteps := 10000000) (disch := omega) only [wrap_id, wrap8, max_r, max_l, min_r, min_l]))); try simp) (fun ⟨⟨i, r⟩, hi, hr⟩ => ?_)
  dsimp only at hi hr
  have hrl := hr.1
  by_cases hlt : i < 32
  · have hb1 : decide ((i : Int) < 32) = true := decide_eq_true (by omega)
    obtain ⟨ya, hya⟩ : ∃ y, a[i]? = some y := ⟨_, List.getElem?_eq_getElem (by omega)⟩
    have hga := bytesC_get hya
    have hva := hatA i ya hya
    (repeat' (first | with_reducible (first | refine zA fun Kn hK => ?_ | refine zB (by kernel_rfl) ?_ | refine zC (by kernel_rfl) (by kernel_rfl) ?_ | refine zD ?_ | refine zN ?_ | refine zF ?_ | refine zG ?_ | refine zH ?_ | (refine hK _ ?_; clear hK Kn) | (clear hK Kn; refine hK _ ?_; clear hK Kn) | (clear hK Kn; clear hK Kn; refine hK _ ?_; clear hK Kn)) | fail | with_reducible (first | refine zI ?_ | refine zJ ?_ | refine zK ?_ ?_ | refine zL ?_ ?_ | refine And.intro (show logOk _ _ = true by kernel_rfl) ?_) | simp (maxSteps := 10000000) (disch := omega) only [wrap_id, wrap8, max_r, max_l, min_r, min_l] | (with_reducible refine zM (fun hb => ?_) (fun hb => ?_) <;> (try simp only [hb])) | (with_reducible refine And.intro (by first | omega | (simp; done) | (simp; omega)) ?_) | simp (maxSteps := 10000000) (implicitDefEqProofs := false) only [go_sem, Nat.reduceEqDiff, Nat.reduceBEq, ↓reduceIte, Nat.reduceAdd, Nat.reduceMul, Nat.reduceSub, Nat.reduceLeDiff, Nat.reduceLT, reduceCtorEq, Int.reduceLE, Int.reduceLT, Int.reduceToNat, Int.reduceBEq, hb1, hga, List.length_map, la, lb, b1, b2, b3] | fail))
    refine sound_loopR (fun x : {p : Nat × List UInt8 × Nat // InB A B Cn i p} => ⟨[(3, vP 3 0), (4, vP 4 0), (5, vP 5 0), (6, vP 6 0), (7, vP 7 0), (19, .a (.agg ((a.map bD).map C.d))), (20, vI i), (8, vI i), (9, .a (.c (.d (bD ya)))), (10, vI x.1.2.2), (24, .a (.agg ((b.map bD).map C.d))), (25, vI x.1.1)], [(3, some ⟨25, (a.map bD).map C.d, true, false⟩), (4, some ⟨25, (b.map bD).map C.d, true, false⟩), (5, some ⟨25, (c.map bD).map C.d, true, false⟩), (6, some ⟨25, zeroOf Try.prog 25, true, false⟩), (7, some ⟨92, (x.1.2.1.map bD).map C.d, true, false⟩)]⟩) (fun x => 32 - x.1.1) ⟨(0, r, 0), InB.zero hr⟩ [] (by (iterate 2 ((try simp (maxSteps := 10000000) (implicitDefEqProofs := false) only [go_sem, Nat.reduceEqDiff, Nat.reduceBEq, ↓reduceIte, Nat.reduceAdd, Nat.reduceMul, Nat.reduceSub, Nat.reduceLeDiff, Nat.reduceLT, reduceCtorEq, Int.reduceLE, Int.reduceLT, Int.reduceToNat, Int.reduceBEq, bD]); (try simp (maxSteps := 10000000) (disch := omega) only [wrap_id, wrap8, max_r, max_l, min_r, min_l]))); try simp) (fun ⟨⟨j, r, cy⟩, hI⟩ => ?_)
    obtain ⟨hj, hrl, hcy, _⟩ := id hI
    dsimp only at hj hrl hcy
    by_cases hjt : j < 32
    · have hb2 : decide ((j : Int) < 32) = true := decide_eq_true (by omega)
      obtain ⟨yb, hyb⟩ : ∃ y, b[j]? = some y := ⟨_, List.getElem?_eq_getElem (by omega)⟩
      obtain ⟨y, hy⟩ : ∃ y, r[i + j]? = some y := ⟨_, List.getElem?_eq_getElem (by omega)⟩
      have hgb := bytesC_get hyb
      have hgy := bytesC_get hy
      have hvb := hatB j yb hyb
      have ha8 : ya.toNat < 256 := ya.toNat_lt
      have hb8 : yb.toNat < 256 := yb.toNat_lt
      have hy8 : y.toNat < 256 := y.toNat_lt
      have hpl : ya.toNat * yb.toNat ≤ 255 * 255 := Nat.mul_le_mul (by omega) (by omega)
      have hst := InB.step (t := ya.toNat * yb.toNat + y.toNat + cy) hI hjt hva.symm hvb.symm hy rfl hpl
      have hbD : bD ya = D.v (.int .u8 (ya.toNat : Int)) := rfl
      have hmul : IntKind.i64.wrap ((ya.toNat : Int) * (yb.toNat : Int)) = ((ya.toNat * yb.toNat : Nat) : Int) := by
        rw [← Int.natCast_mul]
        exact wrap_id (by omega) (by omega)
      generalize ya.toNat * yb.toNat = p at *
      have hsum : (p : Int) + (y.toNat : Int) + (cy : Int) = ((p + y.toNat + cy : Nat) : Int) := by omega
      have hij : ((i : Int) + (j : Int)).toNat = i + j := by omega
      have hcs := bytesC_set (l := r) (k := i + j) (v := (p + y.toNat + cy) % 256) (Nat.mod_lt _ (by omega))
      generalize hT : p + y.toNat + cy = T at *
      (repeat' (first | with_reducible (first | refine zA fun Kn hK => ?_ | refine zB (by kernel_rfl) ?_ | refine zC (by kernel_rfl) (by kernel_rfl) ?_ | refine zD ?_ | refine zN ?_ | refine zF ?_ | refine zG ?_ | refine zH ?_ | (refine hK _ ?_; clear hK Kn) | (clear hK Kn; refine hK _ ?_; clear hK Kn) | (clear hK Kn; clear hK Kn; refine hK _ ?_; clear hK Kn)) | fail | with_reducible (first | refine zI ?_ | refine zJ ?_ | refine zK ?_ ?_ | refine zL ?_ ?_ | refine And.intro (show logOk _ _ = true by kernel_rfl) ?_) | simp (maxSteps := 10000000) (disch := omega) only [wrap_id, wrap8, max_r, max_l, min_r, min_l] | (with_reducible refine zM (fun hb => ?_) (fun hb => ?_) <;> (try simp only [hb])) | (with_reducible refine And.intro (by first | omega | (simp; done) | (simp; omega)) ?_) | simp (maxSteps := 10000000) (implicitDefEqProofs := false) only [go_sem, Nat.reduceEqDiff, Nat.reduceBEq, ↓reduceIte, Nat.reduceAdd, Nat.reduceMul, Nat.reduceSub, Nat.reduceLeDiff, Nat.reduceLT, reduceCtorEq, Int.reduceLE, Int.reduceLT, Int.reduceToNat, Int.reduceBEq, hb2, hbD, hga, hgb, hgy, hmul, hsum, hij, hcs, wrap8_nat, shr_8, pow_8, List.length_map, hrl, la, lb] | fail))
      refine ⟨[], ⟨(j + 1, r.set (i + j) (UInt8.ofNat (T % 256)), T / 256), hst⟩, ?_⟩
      (iterate 2 ((try simp (maxSteps := 10000000) (implicitDefEqProofs := false) only [go_sem, Nat.reduceEqDiff, Nat.reduceBEq, ↓reduceIte, Nat.reduceAdd, Nat.reduceMul, Nat.reduceSub, Nat.reduceLeDiff, Nat.reduceLT, reduceCtorEq, Int.reduceLE, Int.reduceLT, Int.reduceToNat, Int.reduceBEq, true_and]); (try simp (maxSteps := 10000000) (disch := omega) only [wrap_id, wrap8, max_r, max_l, min_r, min_l])))
      try (simp only [SV.a.injEq, AV.c.injEq, C.d.injEq, D.v.injEq, Value.int.injEq, true_and, and_true, DR.one.injEq, DV.c.injEq, OutO.ret.injEq]; first | done | omega | (split <;> omega) | (simp; done) | (simp; omega))
    · have hb2 : decide ((j : Int) < 32) = false := decide_eq_false (by omega)
      obtain rfl : j = 32 := by omega
      have hC0 := InB.done hI HB.out hlt
      (repeat' (first | with_reducible (first | refine zA fun Kn hK => ?_ | refine zB (by kernel_rfl) ?_ | refine zC (by kernel_rfl) (by kernel_rfl) ?_ | refine zD ?_ | refine zN ?_ | refine zF ?_ | refine zG ?_ | refine zH ?_ | (refine hK _ ?_; clear hK Kn) | (clear hK Kn; refine hK _ ?_; clear hK Kn) | (clear hK Kn; clear hK Kn; refine hK _ ?_; clear hK Kn)) | fail | with_reducible (first | refine zI ?_ | refine zJ ?_ | refine zK ?_ ?_ | refine zL ?_ ?_ | refine And.intro (show logOk _ _ = true by kernel_rfl) ?_) | simp (maxSteps := 10000000) (disch := omega) only [wrap_id, wrap8, max_r, max_l, min_r, min_l] | (with_reducible refine zM (fun hb => ?_) (fun hb => ?_) <;> (try simp only [hb])) | (with_reducible refine And.intro (by first | omega | (simp; done) | (simp; omega)) ?_) | simp (maxSteps := 10000000) (implicitDefEqProofs := false) only [go_sem, Nat.reduceEqDiff, Nat.reduceBEq, ↓reduceIte, Nat.reduceAdd, Nat.reduceMul, Nat.reduceSub, Nat.reduceLeDiff, Nat.reduceLT, reduceCtorEq, Int.reduceLE, Int.reduceLT, Int.reduceToNat, Int.reduceBEq, hb2] | fail))
      refine sound_loopR (fun x : {p : Nat × List UInt8 × Nat // InC A B Cn i p} => ⟨[(3, vP 3 0), (4, vP 4 0), (5, vP 5 0), (6, vP 6 0), (7, vP 7 0), (19, .a (.agg ((a.map bD).map C.d))), (20, vI i), (10, vI x.1.2.2), (14, vI x.1.1)], [(3, some ⟨25, (a.map bD).map C.d, true, false⟩), (4, some ⟨25, (b.map bD).map C.d, true, false⟩), (5, some ⟨25, (c.map bD).map C.d, true, false⟩), (6, some ⟨25, zeroOf Try.prog 25, true, false⟩), (7, some ⟨92, (x.1.2.1.map bD).map C.d, true, false⟩)]⟩) (fun x => 64 - x.1.1) ⟨(i + 32, r, cy), hC0⟩ [] (by (iterate 2 ((try simp (maxSteps := 10000000) (implicitDefEqProofs := false) only [go_sem, Nat.reduceEqDiff, Nat.reduceBEq, ↓reduceIte, Nat.reduceAdd, Nat.reduceMul, Nat.reduceSub, Nat.reduceLeDiff, Nat.reduceLT, reduceCtorEq, Int.reduceLE, Int.reduceLT, Int.reduceToNat, Int.reduceBEq, true_and]); (try simp (maxSteps := 10000000) (disch := omega) only [wrap_id, wrap8, max_r, max_l, min_r, min_l]))); try simp) (fun ⟨⟨k, r, cy⟩, hI⟩ => ?_)
      obtain ⟨hk, hrl, hcy, _⟩ := id hI
      dsimp only at hk hrl hcy
      by_cases hc0 : 0 < cy
      · have hb3 : decide ((cy : Int) > 0) = true := decide_eq_true (by omega)
        have hk64 := InC.lt hI HB.out HC.out hlt hc0
        obtain ⟨y, hy⟩ : ∃ y, r[k]? = some y := ⟨_, List.getElem?_eq_getElem (by omega)⟩
        have hgy := bytesC_get hy
        have hy8 : y.toNat < 256 := y.toNat_lt
        have hst := InC.step (t := y.toNat + cy) hI hk64 hy rfl
        have hsum : (y.toNat : Int) + (cy : Int) = ((y.toNat + cy : Nat) : Int) := by omega
        have hcs := bytesC_set (l := r) (k := k) (v := (y.toNat + cy) % 256) (Nat.mod_lt _ (by omega))
        generalize hT : y.toNat + cy = T at *
        (repeat' (first | with_reducible (first | refine zA fun Kn hK => ?_ | refine zB (by kernel_rfl) ?_ | refine zC (by kernel_rfl) (by kernel_rfl) ?_ | refine zD ?_ | refine zN ?_ | refine zF ?_ | refine zG ?_ | refine zH ?_ | (refine hK _ ?_; clear hK Kn) | (clear hK Kn; refine hK _ ?_; clear hK Kn) | (clear hK Kn; clear hK Kn; refine hK _ ?_; clear hK Kn)) | fail | with_reducible (first | refine zI ?_ | refine zJ ?_ | refine zK ?_ ?_ | refine zL ?_ ?_ | refine And.intro (show logOk _ _ = true by kernel_rfl) ?_) | simp (maxSteps := 10000000) (disch := omega) only [wrap_id, wrap8, max_r, max_l, min_r, min_l] | (with_reducible refine zM (fun hb => ?_) (fun hb => ?_) <;> (try simp only [hb])) | (with_reducible refine And.intro (by first | omega | (simp; done) | (simp; omega)) ?_) | simp (maxSteps := 10000000) (implicitDefEqProofs := false) only [go_sem, Nat.reduceEqDiff, Nat.reduceBEq, ↓reduceIte, Nat.reduceAdd, Nat.reduceMul, Nat.reduceSub, Nat.reduceLeDiff, Nat.reduceLT, reduceCtorEq, Int.reduceLE, Int.reduceLT, Int.reduceToNat, Int.reduceBEq, hb3, hgy, hsum, hcs, wrap8_nat, shr_8, pow_8, List.length_map, hrl] | fail))
        refine ⟨[], ⟨(k + 1, r.set k (UInt8.ofNat (T % 256)), T / 256), hst⟩, ?_⟩
        (iterate 2 ((try simp (maxSteps := 10000000) (implicitDefEqProofs := false) only [go_sem, Nat.reduceEqDiff, Nat.reduceBEq, ↓reduceIte, Nat.reduceAdd, Nat.reduceMul, Nat.reduceSub, Nat.reduceLeDiff, Nat.reduceLT, reduceCtorEq, Int.reduceLE, Int.reduceLT, Int.reduceToNat, Int.reduceBEq, true_and]); (try simp (maxSteps := 10000000) (disch := omega) only [wrap_id, wrap8, max_r, max_l, min_r, min_l])))
        try (simp only [SV.a.injEq, AV.c.injEq, C.d.injEq, D.v.injEq, Value.int.injEq, true_and, and_true, DR.one.injEq, DV.c.injEq, OutO.ret.injEq]; first | done | omega | (split <;> omega) | (simp; done) | (simp; omega))
      · have hb3 : decide ((cy : Int) > 0) = false := decide_eq_false (by omega)
        obtain rfl : cy = 0 := by omega
        have hn := InC.done hI
        (repeat' (first | with_reducible (first | refine zA fun Kn hK => ?_ | refine zB (by kernel_rfl) ?_ | refine zC (by kernel_rfl) (by kernel_rfl) ?_ | refine zD ?_ | refine zN ?_ | refine zF ?_ | refine zG ?_ | refine zH ?_ | (refine hK _ ?_; clear hK Kn) | (clear hK Kn; refine hK _ ?_; clear hK Kn) | (clear hK Kn; clear hK Kn; refine hK _ ?_; clear hK Kn)) | fail | with_reducible (first | refine zI ?_ | refine zJ ?_ | refine zK ?_ ?_ | refine zL ?_ ?_ | refine And.intro (show logOk _ _ = true by kernel_rfl) ?_) | simp (maxSteps := 10000000) (disch := omega) only [wrap_id, wrap8, max_r, max_l, min_r, min_l] | (with_reducible refine zM (fun hb => ?_) (fun hb => ?_) <;> (try simp only [hb])) | (with_reducible refine And.intro (by first | omega | (simp; done) | (simp; omega)) ?_) | simp (maxSteps := 10000000) (implicitDefEqProofs := false) only [go_sem, Nat.reduceEqDiff, Nat.reduceBEq, ↓reduceIte, Nat.reduceAdd, Nat.reduceMul, Nat.reduceSub, Nat.reduceLeDiff, Nat.reduceLT, reduceCtorEq, Int.reduceLE, Int.reduceLT, Int.reduceToNat, Int.reduceBEq, hb3] | fail))
        refine ⟨[], ⟨(i + 1, r), by omega, hn⟩, ?_⟩
        (iterate 2 ((try simp (maxSteps := 10000000) (implicitDefEqProofs := false) only [go_sem, Nat.reduceEqDiff, Nat.reduceBEq, ↓reduceIte, Nat.reduceAdd, Nat.reduceMul, Nat.reduceSub, Nat.reduceLeDiff, Nat.reduceLT, reduceCtorEq, Int.reduceLE, Int.reduceLT, Int.reduceToNat, Int.reduceBEq, true_and]); (try simp (maxSteps := 10000000) (disch := omega) only [wrap_id, wrap8, max_r, max_l, min_r, min_l])))
        try (simp only [SV.a.injEq, AV.c.injEq, C.d.injEq, D.v.injEq, Value.int.injEq, true_and, and_true, DR.one.injEq, DV.c.injEq, OutO.ret.injEq]; first | done | omega | (split <;> omega) | (simp; done) | (simp; omega))
  · have hb1 : decide ((i : Int) < 32) = false := decide_eq_false (by omega)
    obtain rfl : i = 32 := by omega
    have hRr := hR r hrl
    rw [hr.2, hend, hrl, hout] at hRr
    obtain ⟨r1, r2, r3⟩ := cd_facts (l := r.map bD) (n := 65) (by rw [List.length_map]; exact hrl)
    obtain ⟨o1, o2, o3⟩ := cd_facts (l := out.map bD) (n := 32) (by rw [List.length_map]; exact hln)
    (repeat' (first | with_reducible (first | refine zA fun Kn hK => ?_ | refine zB (by kernel_rfl) ?_ | refine zC (by kernel_rfl) (by kernel_rfl) ?_ | refine zD ?_ | refine zN ?_ | refine zF ?_ | refine zG ?_ | refine zH ?_ | (refine hK _ ?_; clear hK Kn) | (clear hK Kn; refine hK _ ?_; clear hK Kn) | (clear hK Kn; clear hK Kn; refine hK _ ?_; clear hK Kn)) | (refine ⟨none, ?_⟩) | (refine ⟨_, hRr, ?_⟩) | with_reducible (first | refine zI ?_ | refine zJ ?_ | refine zK ?_ ?_ | refine zL ?_ ?_ | refine And.intro (show logOk _ _ = true by kernel_rfl) ?_) | simp (maxSteps := 10000000) (disch := omega) only [wrap_id, wrap8, max_r, max_l, min_r, min_l] | (with_reducible refine zM (fun hb => ?_) (fun hb => ?_) <;> (try simp only [hb])) | (with_reducible refine And.intro (by first | omega | (simp; done) | (simp; omega)) ?_) | simp (maxSteps := 10000000) (implicitDefEqProofs := false) only [go_sem, Nat.reduceEqDiff, Nat.reduceBEq, ↓reduceIte, Nat.reduceAdd, Nat.reduceMul, Nat.reduceSub, Nat.reduceLeDiff, Nat.reduceLT, reduceCtorEq, Int.reduceLE, Int.reduceLT, Int.reduceToNat, Int.reduceBEq, hb1, List.length_map, List.length_replicate, List.drop_replicate, hrl, hln, r1, r2, r3, o1, o2, o3, List.append_nil] | fail))
end Go.Proofs.Ytkpkiefebipbbaa
/- A product and a sum by digits: the walk. -/
namespace Go.Proofs.Ytkpkiefebipbbaa
open Go.RowKit
end Go.Proofs.Ytkpkiefebipbbaa
/- Points by digits: the curve's number, the point that changes nothing. -/
namespace Go.Proofs.Ytkpkiefebipbbaa
open Go.RowKit
section
variable {G : Nat → Option (List D)}
end
end Go.Proofs.Ytkpkiefebipbbaa
/- Points by digits: three elements behind each other. -/
namespace Go.Proofs.Ytkpkiefebipbbaa
open Go.RowKit
section
variable {α : Type} {A B : List α}
end
end Go.Proofs.Ytkpkiefebipbbaa
/- Points by digits: the one that changes nothing; sums. -/
namespace Go.Proofs.Ytkpkiefebipbbaa
open Go.RowKit
section
variable {G : Nat → Option (List D)}
end
end Go.Proofs.Ytkpkiefebipbbaa
/- Points by digits: the one that changes nothing; sums. -/
namespace Go.Proofs.Ytkpkiefebipbbaa
open Go.RowKit
section
variable {G : Nat → Option (List D)}
def rX (x1 y1 z1 x2 y2 z2 k : F) : F := z1 * z2 * (z1 * z2 * (z1 * z2) - k * (x1 * x2) * (y1 * y2)) * ((x1 + y1) * (x2 + y2) - x1 * x2 - y1 * y2)
def rY (x1 y1 z1 x2 y2 z2 k : F) : F := z1 * z2 * (z1 * z2 * (z1 * z2) + k * (x1 * x2) * (y1 * y2)) * (y1 * y2 + x1 * x2)
def rZ (x1 y1 z1 x2 y2 z2 k : F) : F := (z1 * z2 * (z1 * z2) - k * (x1 * x2) * (y1 * y2)) * (z1 * z2 * (z1 * z2) + k * (x1 * x2) * (y1 * y2))
end
end Go.Proofs.Ytkpkiefebipbbaa
/- Points by digits: sums, roots. -/
namespace Go.Proofs.Ytkpkiefebipbbaa
open Go.RowKit
section
variable {G : Nat → Option (List D)}
end
end Go.Proofs.Ytkpkiefebipbbaa
/- Sixteen digits: their bytes, a row of one's own. -/
namespace Go.Proofs.Ytkpkiefebipbbaa
open Go.RowKit
end Go.Proofs.Ytkpkiefebipbbaa
/- Points by digits: their bytes. -/
namespace Go.Proofs.Ytkpkiefebipbbaa
open Go.RowKit
theorem leB_top (x : F) : ((leB x.val).getD 31 0).toNat < 128 := by
  have h1 : ((leB x.val).getD 31 0).toNat = topB (leB x.val) := rfl
  rw [h1, ← topB_div (leB_len _), leV_leB (Nat.lt_trans x.isLt (by decide +kernel)), Nat.div_lt_iff_lt_mul (Nat.pow_pos (by omega))]
  exact Nat.lt_trans x.isLt (by decide +kernel)
section
variable {G : Nat → Option (List D)}
end
end Go.Proofs.Ytkpkiefebipbbaa
/- Points by digits: roots. -/
namespace Go.Proofs.Ytkpkiefebipbbaa
open Go.RowKit
section
variable {G : Nat → Option (List D)}
end
end Go.Proofs.Ytkpkiefebipbbaa
/- Points by digits: the base. -/
namespace Go.Proofs.Ytkpkiefebipbbaa
open Go.RowKit
section
variable {G : Nat → Option (List D)}
end
end Go.Proofs.Ytkpkiefebipbbaa
/- Points by digits: multiples. -/
namespace Go.Proofs.Ytkpkiefebipbbaa
open Go.RowKit
/-- Three numbers that stand for a point. -/
abbrev T3 := F × F × F
def aT (s t : T3) : T3 := (rX s.1 s.2.1 s.2.2 t.1 t.2.1 t.2.2 dF, rY s.1 s.2.1 s.2.2 t.1 t.2.1 t.2.2 dF, rZ s.1 s.2.1 s.2.2 t.1 t.2.1 t.2.2 dF)
section
variable {G : Nat → Option (List D)}
end
end Go.Proofs.Ytkpkiefebipbbaa
/- Points by digits: of bytes. -/
namespace Go.Proofs.Ytkpkiefebipbbaa
open Go.RowKit
section
variable {G : Nat → Option (List D)}
end
end Go.Proofs.Ytkpkiefebipbbaa
/- Points by three numbers: which points these stand for; multiples by bits. -/
namespace Go.Proofs.Ytkpkiefebipbbaa
section
variable {x1 y1 x2 y2 z1 z2 d X1 Y1 X2 Y2 : F} (hX1 : X1 = x1 * z1) (hY1 : Y1 = y1 * z1) (hX2 : X2 = x2 * z2) (hY2 : Y2 = y2 * z2)
include hX1 hY1 hX2 hY2
theorem g_prG : z1 * z2 * (z1 * z2) - d * (X1 * X2) * (Y1 * Y2) = z1 * z2 * (z1 * z2) * (1 - d * x1 * x2 * y1 * y2) := by grobner
theorem g_prH : z1 * z2 * (z1 * z2) + d * (X1 * X2) * (Y1 * Y2) = z1 * z2 * (z1 * z2) * (1 + d * x1 * x2 * y1 * y2) := by grobner
theorem g_prK : (X1 + Y1) * (X2 + Y2) - X1 * X2 - Y1 * Y2 = z1 * z2 * (x1 * y2 + x2 * y1) := by grobner
theorem g_prE : Y1 * Y2 + X1 * X2 = z1 * z2 * (y1 * y2 + x1 * x2) := by grobner
end
theorem g_prX {w a m p u : F} (hu : p * u = 1) : w * (w * w * m) * (w * a) = a * u * ((w * w * m) * (w * w * p)) := by grobner
theorem g_prY {w b m p v : F} (hv : m * v = 1) : w * (w * w * p) * (w * b) = b * v * ((w * w * m) * (w * w * p)) := by grobner
/-- Three numbers that stand for a point. -/
structure Prj (X Y Z : F) (P : F × F) : Prop where
  on : OnP P
  nz : Z ≠ 0
  x : X = P.1 * Z
  y : Y = P.2 * Z
theorem prj_add {X1 Y1 Z1 X2 Y2 Z2 : F} {P Q : F × F} (h : Prj X1 Y1 Z1 P) (k : Prj X2 Y2 Z2 Q) :
    Prj (Z1 * Z2 * (Z1 * Z2 * (Z1 * Z2) - dF * (X1 * X2) * (Y1 * Y2)) * ((X1 + Y1) * (X2 + Y2) - X1 * X2 - Y1 * Y2))
      (Z1 * Z2 * (Z1 * Z2 * (Z1 * Z2) + dF * (X1 * X2) * (Y1 * Y2)) * (Y1 * Y2 + X1 * X2))
      ((Z1 * Z2 * (Z1 * Z2) - dF * (X1 * X2) * (Y1 * Y2)) * (Z1 * Z2 * (Z1 * Z2) + dF * (X1 * X2) * (Y1 * Y2))) (pAdd P Q) := by
  have hp := plus_ne h.on k.on
  have hm := minus_ne h.on k.on
  have hw : Z1 * Z2 ≠ 0 := F.mul_ne h.nz k.nz
  rw [g_prG h.x h.y k.x k.y, g_prH h.x h.y k.x k.y, g_prK h.x h.y k.x k.y, g_prE h.x h.y k.x k.y]
  exact ⟨pAdd_on h.on k.on, F.mul_ne (F.mul_ne (F.mul_ne hw hw) hm) (F.mul_ne (F.mul_ne hw hw) hp), g_prX (mul_inv hp), g_prY (mul_inv hm)⟩
theorem prj_O : Prj 0 1 1 pO := ⟨pO_on, one_ne, g_x0, g_x1⟩
theorem prj_of {P : F × F} (h : OnP P) : Prj P.1 P.2 1 P := ⟨h, one_ne, g_x3, g_x3⟩
def PrjT (t : T3) (P : F × F) : Prop := Prj t.1 t.2.1 t.2.2 P
theorem prjT_add {s t : T3} {P Q : F × F} (h : PrjT s P) (k : PrjT t Q) : PrjT (aT s t) (pAdd P Q) := prj_add h k
end Go.Proofs.Ytkpkiefebipbbaa
/- Roots are roots; a point's bytes are that point's. -/
namespace Go.Proofs.Ytkpkiefebipbbaa
theorem g_one2 {s e : F} (h : s * s = e * e) : (s - e) * (s + e) = 0 := by grobner
theorem g_eq0 {s e : F} (h : s - e = 0) : s = e := by grobner
theorem g_neg0 {s e : F} (h : s + e = 0) : s = -e := by grobner
theorem g_neg1 {s z e : F} (hz : z = 0) (h : s + e = z) : s = z - e := by grobner
theorem g_rtB {a i u s e : F} (h : a * a = s * u) (hs : s = -e) (hi : i * i = -e) (he : e = 1) : a * i * (a * i) = u := by grobner
theorem g_sub0 {x z : F} (hz : z = 0) (h : z - x = z) : z = x := by grobner
theorem g_nn {x z : F} (hz : z = 0) : z - (z - x) = x := by grobner
theorem fpow_zero_base {n : Nat} (h : 0 < n) : fpow 0 n = 0 := F.ext (by rw [fpow_val, F.zero_val, Nat.zero_pow h]; rfl)
theorem fpow_sq (x : F) (n : Nat) : fpow (x * x) n = fpow x (n + n) := by rw [mul_fpow, fpow_add]
theorem rootOk_sq (x : F) : rootOk (x * x) = true := by
  unfold rootOk
  apply decide_eq_true
  unfold rootC
  split
  · assumption
  · rename_i hne
    by_cases hx : x = 0
    · subst hx
      exfalso
      apply hne
      unfold rootA
      have h0 : (0 : F) * 0 = 0 := g_zero
      rw [h0, fpow_zero_base (by decide +kernel), h0]
    · have ha : rootA (x * x) * rootA (x * x) = fpow (x * x) (2 ^ 253 - 5) * (x * x) := by
        unfold rootA
        rw [← fpow_add, ← fpow_succ, show (2 ^ 252 - 2 + (2 ^ 252 - 2) : Nat) = 2 ^ 253 - 5 + 1 by decide +kernel]
      have hs : fpow (x * x) (2 ^ 253 - 5) * fpow (x * x) (2 ^ 253 - 5) = 1 * 1 := by
        rw [fpow_sq, ← fpow_add, show (2 ^ 253 - 5 + (2 ^ 253 - 5) + (2 ^ 253 - 5 + (2 ^ 253 - 5)) : Nat) = pP - 1 by decide +kernel, fermat hx]
        exact g_x1
      generalize fpow (x * x) (2 ^ 253 - 5) = s at *
      unfold rootB
      rw [root2]
      rcases F.mul_eq_zero (g_one2 hs) with h1 | h1
      · exfalso
        apply hne
        rw [ha, g_eq0 h1]
        exact (g_rot.trans g_x3.symm)
      · exact g_rtB ha (g_neg0 h1) iF_sq rfl
theorem pP_odd : pP % 2 = 1 := by decide +kernel
theorem F.sub_val0 {x : F} (h : x ≠ 0) : (0 - x).val = pP - x.val := by
  have hx : x.val ≠ 0 := fun e => h (F.ext e)
  have hl := x.isLt
  show (pP - x.val + 0) % pP = _
  rw [Nat.add_zero, Nat.mod_eq_of_lt (by omega)]
theorem odd_subN {p v : Nat} (h2 : p % 2 = 1) (hl : v < p) : decide ((p - v) % 2 = 1) = !decide (v % 2 = 1) := by
  rw [Bool.eq_iff_iff]
  simp only [decide_eq_true_eq, Bool.not_eq_true', decide_eq_false_iff_not]
  omega
theorem odd_neg {x : F} (h : x ≠ 0) : oddF (0 - x) = !oddF x := by
  unfold oddF
  rw [F.sub_val0 h]
  exact odd_subN pP_odd x.isLt
theorem odd_zero : oddF 0 = false := by decide +kernel
theorem rootF_even {u : F} (h : rootOk u = true) : oddF (rootF u) = false := by
  unfold rootF
  rw [if_pos h]
  split
  · rename_i ho
    rw [odd_neg, ho]
    · rfl
    · intro e
      rw [e, odd_zero] at ho
      cases ho
  · rename_i ho
    simpa using ho
theorem zero_sub0 : (0 : F) - 0 = 0 := by decide +kernel
theorem root_pick {x r : F} (hsq : r * r = x * x) (hev : oddF r = false) : r = if oddF x then 0 - x else x := by
  rcases F.mul_eq_zero (g_one2 hsq) with h1 | h1
  · have h2 := g_eq0 h1
    rw [← h2, hev, if_neg Bool.false_ne_true]
  · have e : r = 0 - x := g_neg1 rfl h1
    by_cases hx : x = 0
    · rw [e, hx, odd_zero, if_neg Bool.false_ne_true]
      exact zero_sub0
    · rw [e, odd_neg hx] at hev
      rw [if_pos (by simpa using hev), e]
theorem rootF_of (x : F) : rootF (x * x) = if oddF x then 0 - x else x :=
  root_pick (rootF_sq (rootOk_sq x)) (rootF_even (rootOk_sq x))
theorem encB_val (P : F × F) : leV (encB P) = P.2.val + (if oddF P.1 then 2 ^ 255 else 0) := by
  have hl : leV (leB P.2.val) = P.2.val := leV_leB P.2.lt256
  unfold encB
  split
  · have ht := leB_top P.2
    have hs := leV_set (l := leB P.2.val) (j := 31) (d := UInt8.ofNat (((leB P.2.val).getD 31 0).toNat % 128 + 128)) (topB_get (leB_len _))
    rw [← setTop, hl] at hs
    have hd : (UInt8.ofNat (((leB P.2.val).getD 31 0).toNat % 128 + 128)).toNat = ((leB P.2.val).getD 31 0).toNat + 128 := by
      rw [UInt8.toNat_ofNat_of_lt' (by simp only [UInt8.size]; omega)]
      omega
    rw [hd, Nat.mul_add] at hs
    have hp : (256 : Nat) ^ 31 * 128 = 2 ^ 255 := by decide +kernel
    rw [hp] at hs
    omega
  · rw [hl]
    rfl
theorem dec_enc {P : F × F} (h : OnP P) : decOk (encB P) = true ∧ decP (encB P) = P := by
  have hv := encB_val P
  have hlt := P.2.isLt
  have hp : pP < 2 ^ 255 := by decide +kernel
  have hm : leV (encB P) % 2 ^ 255 = P.2.val := by
    rw [hv]
    split
    · rw [Nat.add_mod_right, Nat.mod_eq_of_lt (Nat.lt_trans hlt hp)]
    · rw [Nat.add_zero, Nat.mod_eq_of_lt (Nat.lt_trans hlt hp)]
  have hy : yB (encB P) = P.2 := by rw [yB, hm, toF_self]
  have ho : oddB (encB P) = oddF P.1 := by
    unfold oddB
    rw [hv]
    cases hc : oddF P.1
    · exact decide_eq_false (by rw [if_neg (by decide)]; omega)
    · exact decide_eq_true (by rw [if_pos rfl]; omega)
  have hc : canB (encB P) = true := by
    unfold canB
    rw [hm, encB_len, decide_eq_true hlt]
    rfl
  have hu : P.1 * P.1 = uF P.2 := uF_of h
  have hok := rootOk_sq P.1
  have hf := rootF_of P.1
  rw [hu] at hok hf
  constructor
  · unfold decOk
    rw [hc, hy, hok, ho, hf]
    cases hodd : oddF P.1
    · rfl
    · simp only [Bool.true_and, if_true, Bool.not_eq_true', decide_eq_false_iff_not]
      intro e
      have h0 : P.1 = 0 := (g_sub0 rfl e).symm
      rw [h0, odd_zero] at hodd
      cases hodd
  · unfold decP
    rw [hy, ho, hf]
    refine Prod.ext ?_ rfl
    cases hodd : oddF P.1
    · rfl
    · exact g_nn rfl
end Go.Proofs.Ytkpkiefebipbbaa
/- The base, as often as the order says, is the point that changes nothing. -/
namespace Go.Proofs.Ytkpkiefebipbbaa
abbrev N3 := Nat × Nat × Nat
def mulN (a b : Nat) : Nat := a * b % pP
def addN (a b : Nat) : Nat := (a + b) % pP
def subN (a b : Nat) : Nat := (a + (pP - b % pP)) % pP
def gN (w c e : Nat) : Nat := subN (mulN w w) (mulN (mulN dF.val c) e)
def hN (w c e : Nat) : Nat := addN (mulN w w) (mulN (mulN dF.val c) e)
def aXN (w c e k : Nat) : Nat := mulN (mulN w (gN w c e)) (subN (subN k c) e)
def aYN (w c e : Nat) : Nat := mulN (mulN w (hN w c e)) (addN e c)
def aZN (w c e : Nat) : Nat := mulN (gN w c e) (hN w c e)
def aTN (s t : N3) : N3 := (aXN (mulN s.2.2 t.2.2) (mulN s.1 t.1) (mulN s.2.1 t.2.1) (mulN (addN s.1 s.2.1) (addN t.1 t.2.1)), aYN (mulN s.2.2 t.2.2) (mulN s.1 t.1) (mulN s.2.1 t.2.1), aZN (mulN s.2.2 t.2.2) (mulN s.1 t.1) (mulN s.2.1 t.2.1))
def toT (s : N3) : T3 := (toF s.1, toF s.2.1, toF s.2.2)
theorem toF_mulN (a b : Nat) : toF (mulN a b) = toF a * toF b := by rw [← toF_mul]; exact toF_eq (Nat.mod_mod _ _)
theorem toF_addN (a b : Nat) : toF (addN a b) = toF a + toF b := by rw [← toF_add]; exact toF_eq (Nat.mod_mod _ _)
theorem g_subof {a b c : F} (h : c + b = a) : c = a - b := by grobner
theorem toF_subN (a b : Nat) : toF (subN a b) = toF a - toF b := by
  apply g_subof
  rw [← toF_add]
  apply toF_eq
  have h0 : 0 < pP := by decide
  have h := Nat.mod_lt b h0
  have e : a + (pP - b % pP) + b = a + pP * (b / pP + 1) := by
    have := Nat.div_add_mod b pP
    rw [Nat.mul_add]
    omega
  unfold subN
  rw [Nat.mod_add_mod, e, Nat.add_mul_mod_self_left]
theorem toT_add (s t : N3) : toT (aTN s t) = aT (toT s) (toT t) := by
  unfold toT aT aTN rX rY rZ aXN aYN aZN gN hN
  simp only [toF_mulN, toF_addN, toF_subN, toF_self]
/-- The multiples by the lowest k bits of m, behind r. -/
def tmN (m : Nat) (q : N3) : Nat → N3 → N3
  | 0, r => r
  | k + 1, r => tmN m q k (if m / 2 ^ k % 2 = 1 then aTN (aTN r r) q else aTN r r)
theorem tmN_st {q : N3} {P : F × F} (h : PrjT (toT q) P) (m : Nat) : ∀ k a r, PrjT (toT r) (nmul a P) → PrjT (toT (tmN m q k r)) (nmul (a * 2 ^ k + m % 2 ^ k) P)
  | 0, a, r, hr => by
    rw [Nat.pow_zero, Nat.mod_one, Nat.mul_one, Nat.add_zero]
    exact hr
  | k + 1, a, r, hr => by
    rw [tmN]
    have hd : PrjT (toT (aTN r r)) (nmul (2 * a) P) := by
      rw [toT_add, nmul_two h.on]
      exact prjT_add hr hr
    have hm : m % 2 ^ (k + 1) = m / 2 ^ k % 2 * 2 ^ k + m % 2 ^ k := by
      rw [Nat.pow_succ, Nat.mod_mul]
      have := Nat.mul_comm (2 ^ k) (m / 2 ^ k % 2)
      omega
    rw [hm]
    by_cases hb : m / 2 ^ k % 2 = 1
    · rw [if_pos hb, hb]
      have h1 : PrjT (toT (aTN (aTN r r) q)) (nmul (2 * a + 1) P) := by
        rw [toT_add, nmul]
        exact prjT_add hd h
      have h2 := tmN_st h m k _ _ h1
      have e : (2 * a + 1) * 2 ^ k + m % 2 ^ k = a * 2 ^ (k + 1) + (1 * 2 ^ k + m % 2 ^ k) := by
        rw [Nat.pow_succ, Nat.add_mul, Nat.mul_comm 2 a, Nat.mul_assoc, Nat.mul_comm 2 (2 ^ k)]
        omega
      rwa [e] at h2
    · rw [if_neg hb, show m / 2 ^ k % 2 = 0 by omega]
      have h2 := tmN_st h m k _ _ hd
      have e : 2 * a * 2 ^ k + m % 2 ^ k = a * 2 ^ (k + 1) + (0 * 2 ^ k + m % 2 ^ k) := by
        rw [Nat.pow_succ, Nat.mul_comm 2 a, Nat.mul_assoc, Nat.mul_comm 2 (2 ^ k)]
        omega
      rwa [e] at h2
def bN : N3 := (15112221349535400772501151409588531511454012693041857206046113283949847762202, 46316835694926478169428394003475163141307993866256225615783033603165251855960, 1)
theorem lb_0 : tmN 268435456 bN 32 (0, 1, 1) = (23841362315162157963240065961996342192667868126572660254011512261892066362163, 10589260136220699371337485741244709369737494800476146485297140171895329239237, 57342154075044104467104560113282909513538998314027273285817548568158301075036) := by decide +kernel
theorem lb_1 : tmN 0 bN 32 (23841362315162157963240065961996342192667868126572660254011512261892066362163, 10589260136220699371337485741244709369737494800476146485297140171895329239237, 57342154075044104467104560113282909513538998314027273285817548568158301075036) = (2366596015224409419228293907778329947162201905308173925810546072603219308862, 51429684617147213753630951324736354870807210291835695053666508888484204888685, 50582619301464365103006457350767437022237261362657536186419869880526353209248) := by decide +kernel
theorem lb_2 : tmN 0 bN 32 (2366596015224409419228293907778329947162201905308173925810546072603219308862, 51429684617147213753630951324736354870807210291835695053666508888484204888685, 50582619301464365103006457350767437022237261362657536186419869880526353209248) = (20777532424812759436869159005616729845936496228373116855199367059090174451217, 46833033077795783228137287513215451469051495357528391766149985600663892270996, 12535928820462523175293343484786209346012078944725312447705213920059612575304) := by decide +kernel
theorem lb_3 : tmN 0 bN 32 (20777532424812759436869159005616729845936496228373116855199367059090174451217, 46833033077795783228137287513215451469051495357528391766149985600663892270996, 12535928820462523175293343484786209346012078944725312447705213920059612575304) = (9672141512196070665548943507273144682501328322583340732490216110849062207078, 12671568344771432064078574730602141615025613805821629041641880695856694176414, 57176685240966083224485482510411988601176753720977180540233122387484050933681) := by decide +kernel
theorem lb_4 : tmN 350157278 bN 32 (9672141512196070665548943507273144682501328322583340732490216110849062207078, 12671568344771432064078574730602141615025613805821629041641880695856694176414, 57176685240966083224485482510411988601176753720977180540233122387484050933681) = (35294003475198754010352147657516637167041610721936743570022751750365073639544, 11215016236157537800705681124636300308404279959435612888254884863847297638553, 11568050246872273510495511478864223873217087176496303572104092641209113196498) := by decide +kernel
theorem lb_5 : tmN 2734136534 bN 32 (35294003475198754010352147657516637167041610721936743570022751750365073639544, 11215016236157537800705681124636300308404279959435612888254884863847297638553, 11568050246872273510495511478864223873217087176496303572104092641209113196498) = (17446806849750267835582977763343052918304149517851760440662027908146206577047, 36745153976794028695463204682183659204858593650742192865695796716472098948395, 36142305371055007368197543641233705114640808763344021231510026540861242988895) := by decide +kernel
theorem lb_6 : tmN 1477600026 bN 32 (17446806849750267835582977763343052918304149517851760440662027908146206577047, 36745153976794028695463204682183659204858593650742192865695796716472098948395, 36142305371055007368197543641233705114640808763344021231510026540861242988895) = (27292974622146888672833176033024735244794157813523178729207385139090511113751, 37814981721543966875794158950171100273490669632616571459594333372447342683173, 46971513081324735436660616506554414664936576835784224791853224990108164721309) := by decide +kernel
theorem lb_7 : tmN 1559614445 bN 32 (27292974622146888672833176033024735244794157813523178729207385139090511113751, 37814981721543966875794158950171100273490669632616571459594333372447342683173, 46971513081324735436660616506554414664936576835784224791853224990108164721309) = (0, 50090321191994409085177498925701397461314843845488160625525535041103657197703, 50090321191994409085177498925701397461314843845488160625525535041103657197703) := by decide +kernel
theorem bN_st : PrjT (toT bN) pB := by
  have h := prj_of pB_on
  exact h
theorem lb_st0 : PrjT (toT (0, 1, 1)) (nmul 0 pB) := prj_O
theorem lb_st1 : PrjT (toT (23841362315162157963240065961996342192667868126572660254011512261892066362163, 10589260136220699371337485741244709369737494800476146485297140171895329239237, 57342154075044104467104560113282909513538998314027273285817548568158301075036)) (nmul 268435456 pB) := by
  have h := tmN_st bN_st 268435456 32 0 _ lb_st0
  rw [lb_0] at h
  exact h
theorem lb_st2 : PrjT (toT (2366596015224409419228293907778329947162201905308173925810546072603219308862, 51429684617147213753630951324736354870807210291835695053666508888484204888685, 50582619301464365103006457350767437022237261362657536186419869880526353209248)) (nmul 1152921504606846976 pB) := by
  have h := tmN_st bN_st 0 32 268435456 _ lb_st1
  rw [lb_1] at h
  exact h
theorem lb_st3 : PrjT (toT (20777532424812759436869159005616729845936496228373116855199367059090174451217, 46833033077795783228137287513215451469051495357528391766149985600663892270996, 12535928820462523175293343484786209346012078944725312447705213920059612575304)) (nmul 4951760157141521099596496896 pB) := by
  have h := tmN_st bN_st 0 32 1152921504606846976 _ lb_st2
  rw [lb_2] at h
  exact h
theorem lb_st4 : PrjT (toT (9672141512196070665548943507273144682501328322583340732490216110849062207078, 12671568344771432064078574730602141615025613805821629041641880695856694176414, 57176685240966083224485482510411988601176753720977180540233122387484050933681)) (nmul 21267647932558653966460912964485513216 pB) := by
  have h := tmN_st bN_st 0 32 4951760157141521099596496896 _ lb_st3
  rw [lb_3] at h
  exact h
theorem lb_st5 : PrjT (toT (35294003475198754010352147657516637167041610721936743570022751750365073639544, 11215016236157537800705681124636300308404279959435612888254884863847297638553, 11568050246872273510495511478864223873217087176496303572104092641209113196498)) (nmul 91343852333181432387730302044767688728845941214 pB) := by
  have h := tmN_st bN_st 350157278 32 21267647932558653966460912964485513216 _ lb_st4
  rw [lb_4] at h
  exact h
theorem lb_st6 : PrjT (toT (17446806849750267835582977763343052918304149517851760440662027908146206577047, 36745153976794028695463204682183659204858593650742192865695796716472098948395, 36142305371055007368197543641233705114640808763344021231510026540861242988895)) (nmul 392318858461667547739736838950479151007901129339202673878 pB) := by
  have h := tmN_st bN_st 2734136534 32 91343852333181432387730302044767688728845941214 _ lb_st5
  rw [lb_5] at h
  exact h
theorem lb_st7 : PrjT (toT (27292974622146888672833176033024735244794157813523178729207385139090511113751, 37814981721543966875794158950171100273490669632616571459594333372447342683173, 46971513081324735436660616506554414664936576835784224791853224990108164721309)) (nmul 1684996666696914987166688442938726917108780788113341575023241093914 pB) := by
  have h := tmN_st bN_st 1477600026 32 392318858461667547739736838950479151007901129339202673878 _ lb_st6
  rw [lb_6] at h
  exact h
theorem lb_st8 : PrjT (toT (0, 50090321191994409085177498925701397461314843845488160625525535041103657197703, 50090321191994409085177498925701397461314843845488160625525535041103657197703)) (nmul 7237005577332262213973186563042994240857116359379907606001950938285454250989 pB) := by
  have h := tmN_st bN_st 1559614445 32 1684996666696914987166688442938726917108780788113341575023241093914 _ lb_st7
  rw [lb_7] at h
  exact h
theorem lQ_val : lQ = 7237005577332262213973186563042994240857116359379907606001950938285454250989 := by decide +kernel
theorem nmul_lQ : nmul lQ pB = pO := by
  have h := lb_st8
  rw [← lQ_val] at h
  have hz := h.nz
  have hx := h.x
  have hy := h.y
  generalize nmul lQ pB = P at *
  have h0 : (toT (0, 50090321191994409085177498925701397461314843845488160625525535041103657197703, 50090321191994409085177498925701397461314843845488160625525535041103657197703)).1 = 0 := by decide +kernel
  have h1 : (toT (0, 50090321191994409085177498925701397461314843845488160625525535041103657197703, 50090321191994409085177498925701397461314843845488160625525535041103657197703)).2.1 = (toT (0, 50090321191994409085177498925701397461314843845488160625525535041103657197703, 50090321191994409085177498925701397461314843845488160625525535041103657197703)).2.2 := rfl
  rw [h0] at hx
  rw [h1] at hy
  generalize (toT (0, 50090321191994409085177498925701397461314843845488160625525535041103657197703, 50090321191994409085177498925701397461314843845488160625525535041103657197703)).2.2 = z at *
  have e1 : P.1 = 0 := by
    rcases F.mul_eq_zero hx.symm with e | e
    · exact e
    · exact absurd e hz
  have e2 : P.2 = 1 := mul_left_cancel hz (g_rot.trans (hy.symm.trans g_x3))
  exact Prod.ext e1 e2
theorem nmul_mod (n : Nat) : nmul (n % lQ) pB = nmul n pB := by
  have h := nmul_add pB_on (lQ * (n / lQ)) (n % lQ)
  rw [Nat.div_add_mod, nmul_mul pB_on, nmul_lQ, nmul_O, pO_add] at h
  exact h.symm
end Go.Proofs.Ytkpkiefebipbbaa
/- Secret numbers, out of their walks. -/
namespace Go.Proofs.Ytkpkiefebipbbaa
open Go.RowKit
/-- A seed's secret number, of its sum. -/
def secN (h : List UInt8) : List UInt8 := ((h.take 32).set 0 (UInt8.ofNat ((h.getD 0 0).toNat - (h.getD 0 0).toNat % 8))).set 31 (UInt8.ofNat ((h.getD 31 0).toNat % 64 + 64))
theorem secN_len {h : List UInt8} (lh : h.length = 64) : (secN h).length = 32 := by rw [secN, List.length_set, List.length_set, List.length_take, lh]; rfl
@[go_sem] theorem andNot_7 {y : UInt8} : andNotI .u8 (y.toNat : Int) 7 = ((y.toNat - y.toNat % 8 : Nat) : Int) := by
  have := byte_cases (P := fun n => andNotI .u8 (n : Int) 7 == ((n - n % 8 : Nat) : Int)) (by decide +kernel) y.toNat_lt
  simpa using this
theorem or_64n {n : Nat} (h : n < 256) : orI .u8 ((n % 128 : Nat) : Int) 64 = ((n % 64 + 64 : Nat) : Int) := by
  have := byte_cases (P := fun n => orI .u8 ((n % 128 : Nat) : Int) 64 == ((n % 64 + 64 : Nat) : Int)) (by decide +kernel) h
  simpa using this
@[go_sem] theorem or8_64 {y : UInt8} : orI .u8 ((y.toNat % 128 : Nat) : Int) 64 = ((y.toNat % 64 + 64 : Nat) : Int) := or_64n y.toNat_lt
section
variable {G : Nat → Option (List D)}
theorem secret_w {seed h : List UInt8} (lh : h.length = 64) (hs : Spec Try.prog G 43 [.c (.sl 1 [bytesD seed])] (.one (.g (h.map bD)))) :
    Spec Try.prog G 27 [.c (bytesD seed)] (.many [.g ((secN h).map bD), .c (bytesD (h.drop 32))]) := by
  obtain ⟨z1, z2, z3⟩ := cd_facts (l := h.map bD) (n := 64) (by rw [List.length_map, lh])
  have lt : (h.take 32).length = 32 := by rw [List.length_take, lh]; rfl
  have ld : (h.drop 32).length = 32 := by rw [List.length_drop, lh]
  have ht : ((h.map bD).map C.d).take 32 = ((h.take 32).map bD).map C.d := by rw [List.map_take, List.map_take]
  have hd : ((h.map bD).map C.d).drop 32 = ((h.drop 32).map bD).map C.d := by rw [List.map_drop, List.map_drop]
  have e0 : (h.take 32)[0]? = some (h.getD 0 0) := by
    rw [List.getElem?_take, if_pos (by omega), List.getD_eq_getElem?_getD]
    rw [List.getElem?_eq_getElem (by omega), Option.getD_some]
  have e1 : ((h.take 32).set 0 (UInt8.ofNat ((h.getD 0 0).toNat - (h.getD 0 0).toNat % 8)))[31]? = some (h.getD 31 0) := by
    rw [List.getElem?_set_ne (by omega), List.getElem?_take, if_pos (by omega), List.getD_eq_getElem?_getD]
    rw [List.getElem?_eq_getElem (by omega), Option.getD_some]
  have g0 := bytesC_get e0
  have g1 := bytesC_get e1
  have s0 := bytesC_set (l := h.take 32) (k := 0) (v := (h.getD 0 0).toNat - (h.getD 0 0).toNat % 8) (by have := (h.getD 0 0).toNat_lt; omega)
  have s1 := bytesC_set (l := (h.take 32).set 0 (UInt8.ofNat ((h.getD 0 0).toNat - (h.getD 0 0).toNat % 8))) (k := 31) (v := (h.getD 31 0).toNat % 64 + 64) (by omega)
  have hsn : ((h.take 32).set 0 (UInt8.ofNat ((h.getD 0 0).toNat - (h.getD 0 0).toNat % 8))).set 31 (UInt8.ofNat ((h.getD 31 0).toNat % 64 + 64)) = secN h := rfl
  rw [hsn] at s1
  have ln := secN_len lh
  have lm : ((h.take 32).set 0 (UInt8.ofNat ((h.getD 0 0).toNat - (h.getD 0 0).toNat % 8))).length = 32 := by rw [List.length_set, lt]
  obtain ⟨n1, n2, n3⟩ := cd_facts (l := (secN h).map bD) (n := 32) (by rw [List.length_map, ln])
  have hd2 : (h.map bD).drop 32 = (h.drop 32).map bD := by rw [List.map_drop]
  have hd3 : ((h.drop 32).map bD).take 32 = (h.drop 32).map bD := List.take_of_length_le (by rw [List.length_map, ld]; omega)
  generalize secN h = N at *
  generalize (h.take 32).set 0 (UInt8.ofNat ((h.getD 0 0).toNat - (h.getD 0 0).toNat % 8)) = M at *
  generalize h.getD 0 0 = b0 at *
  generalize h.getD 31 0 = b31 at *
  generalize h.take 32 = T at *
  generalize h.drop 32 = P at *
  refine spec_of Try.func27 rfl rfl rfl (by kernel_rfl) rfl fun K => ?_
  (repeat' (first | with_reducible (first | refine zA fun Kn hK => ?_ | refine zB (by kernel_rfl) ?_ | refine zC (by kernel_rfl) (by kernel_rfl) ?_ | refine zD ?_ | refine zN ?_ | refine zF ?_ | refine zG ?_ | refine zH ?_ | (refine hK _ ?_; clear hK Kn) | (clear hK Kn; refine hK _ ?_; clear hK Kn) | (clear hK Kn; clear hK Kn; refine hK _ ?_; clear hK Kn)) | (refine ⟨none, ?_⟩) | (refine ⟨_, hs, ?_⟩) | with_reducible (first | refine zI ?_ | refine zJ ?_ | refine zK ?_ ?_ | refine zL ?_ ?_ | refine And.intro (show logOk _ _ = true by kernel_rfl) ?_) | simp (maxSteps := 10000000) (disch := omega) only [wrap_id, wrap8, max_r, max_l, min_r, min_l] | (with_reducible refine zM (fun hb => ?_) (fun hb => ?_) <;> (try simp only [hb])) | (with_reducible refine And.intro (by first | omega | (simp; done) | (simp; omega)) ?_) | simp (maxSteps := 10000000) (implicitDefEqProofs := false) only [go_sem, Nat.reduceEqDiff, Nat.reduceBEq, ↓reduceIte, Nat.reduceAdd, Nat.reduceMul, Nat.reduceSub, Nat.reduceLeDiff, Nat.reduceLT, reduceCtorEq, Int.reduceLE, Int.reduceLT, Int.reduceToNat, Int.reduceBEq, ht, hd, hd2, hd3, n1, n2, n3, g0, g1, s0, s1, z1, z2, z3, lt, ld, ln, lm, lh, List.length_map, List.length_replicate, List.drop_replicate, List.append_nil] | fail))
end
end Go.Proofs.Ytkpkiefebipbbaa
/- Public keys, signatures: the walks. -/
namespace Go.Proofs.Ytkpkiefebipbbaa
open Go.RowKit
section
variable {G : Nat → Option (List D)}
theorem erest_w {n : Nat} {ls : List D} {h r : List UInt8} (lh : h.length = 64) (lr : r.length = 32) (hs : Spec Try.prog G 43 [.c (.sl n ls)] (.one (.g (h.map bD)))) (hr : Spec Try.prog G 32 [.c (.sl 64 (h.map bD))] (.one (.g (r.map bD)))) :
    Spec Try.prog G 15 [.c (.sl n ls)] (.one (.g (r.map bD))) := by
  obtain ⟨z1, z2, z3⟩ := cd_facts (l := h.map bD) (n := 64) (by rw [List.length_map, lh])
  obtain ⟨n1, n2, n3⟩ := cd_facts (l := r.map bD) (n := 32) (by rw [List.length_map, lr])
  refine spec_of Try.func15 rfl rfl rfl (by kernel_rfl) rfl fun K => ?_
  (repeat' (first | with_reducible (first | refine zA fun Kn hK => ?_ | refine zB (by kernel_rfl) ?_ | refine zC (by kernel_rfl) (by kernel_rfl) ?_ | refine zD ?_ | refine zN ?_ | refine zF ?_ | refine zG ?_ | refine zH ?_ | (refine hK _ ?_; clear hK Kn) | (clear hK Kn; refine hK _ ?_; clear hK Kn) | (clear hK Kn; clear hK Kn; refine hK _ ?_; clear hK Kn)) | (refine ⟨none, ?_⟩) | (refine ⟨_, hs, ?_⟩) | (refine ⟨_, hr, ?_⟩) | with_reducible (first | refine zI ?_ | refine zJ ?_ | refine zK ?_ ?_ | refine zL ?_ ?_ | refine And.intro (show logOk _ _ = true by kernel_rfl) ?_) | simp (maxSteps := 10000000) (disch := omega) only [wrap_id, wrap8, max_r, max_l, min_r, min_l] | (with_reducible refine zM (fun hb => ?_) (fun hb => ?_) <;> (try simp only [hb])) | (with_reducible refine And.intro (by first | omega | (simp; done) | (simp; omega)) ?_) | simp (maxSteps := 10000000) (implicitDefEqProofs := false) only [go_sem, Nat.reduceEqDiff, Nat.reduceBEq, ↓reduceIte, Nat.reduceAdd, Nat.reduceMul, Nat.reduceSub, Nat.reduceLeDiff, Nat.reduceLT, reduceCtorEq, Int.reduceLE, Int.reduceLT, Int.reduceToNat, Int.reduceBEq, z1, z2, z3, n1, n2, n3, lh, lr, List.length_map, List.length_replicate, List.drop_replicate, List.append_nil] | fail))
theorem epub_w {seed N P k : List UInt8} {B Q : List D} (ls : seed.length = 32) (lN : N.length = 32) (lk : k.length = 32) (h1 : Spec Try.prog G 27 [.c (.sl 32 (seed.map bD))] (.many [.g (N.map bD), .c (bytesD P)]))
    (h2 : Spec Try.prog G 16 [] (.one (.g B))) (h3 : Spec Try.prog G 17 [.g B, .g (N.map bD)] (.one (.g Q))) (h4 : Spec Try.prog G 28 [.g Q] (.one (.g (k.map bD)))) :
    Spec Try.prog G 9 [.c (bytesD seed)] (.many [.g (k.map bD), .c (.v (.int .i64 0))]) := by
  obtain ⟨z1, z2, z3⟩ := cd_facts (l := N.map bD) (n := 32) (by rw [List.length_map, lN])
  obtain ⟨n1, n2, n3⟩ := cd_facts (l := k.map bD) (n := 32) (by rw [List.length_map, lk])
  have d0 : (((32 : Nat) : Int) == 32) = true := rfl
  refine spec_of Try.func9 rfl rfl rfl (by kernel_rfl) rfl fun K => ?_
  (repeat' (first | with_reducible (first | refine zA fun Kn hK => ?_ | refine zB (by kernel_rfl) ?_ | refine zC (by kernel_rfl) (by kernel_rfl) ?_ | refine zD ?_ | refine zN ?_ | refine zF ?_ | refine zG ?_ | refine zH ?_ | (refine hK _ ?_; clear hK Kn) | (clear hK Kn; refine hK _ ?_; clear hK Kn) | (clear hK Kn; clear hK Kn; refine hK _ ?_; clear hK Kn)) | (refine ⟨none, ?_⟩) | (refine ⟨_, h1, ?_⟩) | (refine ⟨_, h2, ?_⟩) | (refine ⟨_, h3, ?_⟩) | (refine ⟨_, h4, ?_⟩) | with_reducible (first | refine zI ?_ | refine zJ ?_ | refine zK ?_ ?_ | refine zL ?_ ?_ | refine And.intro (show logOk _ _ = true by kernel_rfl) ?_) | simp (maxSteps := 10000000) (disch := omega) only [wrap_id, wrap8, max_r, max_l, min_r, min_l] | (with_reducible refine zM (fun hb => ?_) (fun hb => ?_) <;> (try simp only [hb])) | (with_reducible refine And.intro (by first | omega | (simp; done) | (simp; omega)) ?_) | simp (maxSteps := 10000000) (implicitDefEqProofs := false) only [go_sem, Nat.reduceEqDiff, Nat.reduceBEq, ↓reduceIte, Nat.reduceAdd, Nat.reduceMul, Nat.reduceSub, Nat.reduceLeDiff, Nat.reduceLT, reduceCtorEq, Int.reduceLE, Int.reduceLT, Int.reduceToNat, Int.reduceBEq, ls, d0, z1, z2, z3, n1, n2, n3, lN, lk, List.length_map, List.length_replicate, List.drop_replicate, List.append_nil] | fail))
theorem esign_w {seed text N P k R r c s : List UInt8} {B Q1 Q2 : List D} (ls : seed.length = 32) (lN : N.length = 32) (lk : k.length = 32) (lR : R.length = 32) (lr : r.length = 32) (lc : c.length = 32) (lss : s.length = 32) (lP : P.length = 32) (lB : B.length = 20)
    (h1 : Spec Try.prog G 27 [.c (.sl 32 (seed.map bD))] (.many [.g (N.map bD), .c (bytesD P)]))
    (h2 : Spec Try.prog G 16 [] (.one (.g B))) (h3 : Spec Try.prog G 17 [.g B, .g (N.map bD)] (.one (.g Q1))) (h4 : Spec Try.prog G 28 [.g Q1] (.one (.g (k.map bD))))
    (h5 : Spec Try.prog G 15 [.c (.sl 2 [bytesD P, bytesD text])] (.one (.g (r.map bD))))
    (h6 : Spec Try.prog G 17 [.g B, .g (r.map bD)] (.one (.g Q2))) (h7 : Spec Try.prog G 28 [.g Q2] (.one (.g (R.map bD))))
    (h8 : Spec Try.prog G 15 [.c (.sl 3 [.sl 32 (R.map bD), .sl 32 (k.map bD), bytesD text])] (.one (.g (c.map bD))))
    (h9 : Spec Try.prog G 29 [.g (c.map bD), .g (N.map bD), .g (r.map bD)] (.one (.g (s.map bD)))) :
    Spec Try.prog G 10 [.c (bytesD seed), .c (bytesD text)] (.many [.g ((R ++ s).map bD), .c (.v (.int .i64 0))]) := by
  obtain ⟨z1, z2, z3⟩ := cd_facts (l := N.map bD) (n := 32) (by rw [List.length_map, lN])
  obtain ⟨n1, n2, n3⟩ := cd_facts (l := k.map bD) (n := 32) (by rw [List.length_map, lk])
  obtain ⟨R1, R2, R3⟩ := cd_facts (l := R.map bD) (n := 32) (by rw [List.length_map, lR])
  obtain ⟨r1, r2, r3⟩ := cd_facts (l := r.map bD) (n := 32) (by rw [List.length_map, lr])
  obtain ⟨c1, c2, c3⟩ := cd_facts (l := c.map bD) (n := 32) (by rw [List.length_map, lc])
  obtain ⟨s1, s2, s3⟩ := cd_facts (l := s.map bD) (n := 32) (by rw [List.length_map, lss])
  have d0 : (((32 : Nat) : Int) == 32) = true := rfl
  obtain ⟨b1, b2, b3⟩ := cd_facts (l := B) (n := 20) lB
  obtain ⟨o1, o2, o3⟩ := cd_facts (l := (R ++ s).map bD) (n := 64) (by rw [List.length_map, List.length_append, lR, lss])
  have lo : (R ++ s).length = 64 := by rw [List.length_append, lR, lss]
  have m1 : (min 32 64 : Nat) = 32 := rfl
  have m2 : (min 32 32 : Nat) = 32 := rfl
  have lRC : ((R.map bD).map C.d).length = 32 := by rw [List.length_map, List.length_map, lR]
  have k1 := fun (B : List C) => List.take_left' (l₂ := B) lRC
  have k2 : List.drop 64 ((R.map bD).map C.d ++ List.replicate 32 (C.d (.v (.int .u8 0)))) = [] := List.drop_eq_nil_of_le (by rw [List.length_append, lRC, List.length_replicate]; omega)
  have k3 : (R.map bD).map C.d ++ (s.map bD).map C.d = ((R ++ s).map bD).map C.d := by rw [List.map_append, List.map_append]
  unfold bytesD at h5 h8
  rw [lP] at h5
  refine spec_of Try.func10 rfl rfl rfl (by kernel_rfl) rfl fun K => ?_
  (repeat' (first | with_reducible (first | refine zA fun Kn hK => ?_ | refine zB (by kernel_rfl) ?_ | refine zC (by kernel_rfl) (by kernel_rfl) ?_ | refine zD ?_ | refine zN ?_ | refine zF ?_ | refine zG ?_ | refine zH ?_ | (refine hK _ ?_; clear hK Kn) | (clear hK Kn; refine hK _ ?_; clear hK Kn) | (clear hK Kn; clear hK Kn; refine hK _ ?_; clear hK Kn)) | (refine ⟨none, ?_⟩) | (refine ⟨_, h1, ?_⟩) | (refine ⟨_, h2, ?_⟩) | (refine ⟨_, h3, ?_⟩) | (refine ⟨_, h4, ?_⟩) | (refine ⟨_, h5, ?_⟩) | (refine ⟨_, h6, ?_⟩) | (refine ⟨_, h7, ?_⟩) | (refine ⟨_, h8, ?_⟩) | (refine ⟨_, h9, ?_⟩) | with_reducible (first | refine zI ?_ | refine zJ ?_ | refine zK ?_ ?_ | refine zL ?_ ?_ | refine And.intro (show logOk _ _ = true by kernel_rfl) ?_) | simp (maxSteps := 10000000) (disch := omega) only [wrap_id, wrap8, max_r, max_l, min_r, min_l] | (with_reducible refine zM (fun hb => ?_) (fun hb => ?_) <;> (try simp only [hb])) | (with_reducible refine And.intro (by first | omega | (simp; done) | (simp; omega)) ?_) | simp (maxSteps := 10000000) (implicitDefEqProofs := false) only [go_sem, Nat.reduceEqDiff, Nat.reduceBEq, ↓reduceIte, Nat.reduceAdd, Nat.reduceMul, Nat.reduceSub, Nat.reduceLeDiff, Nat.reduceLT, reduceCtorEq, Int.reduceLE, Int.reduceLT, Int.reduceToNat, Int.reduceBEq, ls, d0, z1, z2, z3, n1, n2, n3, R1, R2, R3, r1, r2, r3, c1, c2, c3, s1, s2, s3, b1, b2, b3, o1, o2, o3, lo, Nat.sub_self, List.replicate_zero, m1, m2, k1, k2, k3, lN, lk, lR, lr, lc, lss, lP, lB, List.length_map, List.length_replicate, List.drop_replicate, List.append_nil] | fail))
end
end Go.Proofs.Ytkpkiefebipbbaa
/- Signatures held up: the walk. -/
namespace Go.Proofs.Ytkpkiefebipbbaa
open Go.RowKit
section
variable {G : Nat → Option (List D)}
theorem ever_bad1 {pub text sig : List UInt8} (h : pub.length ≠ 32 ∨ sig.length ≠ 64) :
    Spec Try.prog G 7 [.c (bytesD pub), .c (bytesD text), .c (bytesD sig)] (.one (.c (.v (.bool false)))) := by
  by_cases hp : pub.length = 32
  · have d0 : (((32 : Nat) : Int) == 32) = true := rfl
    have d1 : (sig.length == 64) = false := by simpa [hp] using h
    refine spec_of Try.func7 rfl rfl rfl (by kernel_rfl) rfl fun K => ?_
    (repeat' (first | with_reducible (first | refine zA fun Kn hK => ?_ | refine zB (by kernel_rfl) ?_ | refine zC (by kernel_rfl) (by kernel_rfl) ?_ | refine zD ?_ | refine zN ?_ | refine zF ?_ | refine zG ?_ | refine zH ?_ | (refine hK _ ?_; clear hK Kn) | (clear hK Kn; refine hK _ ?_; clear hK Kn) | (clear hK Kn; clear hK Kn; refine hK _ ?_; clear hK Kn)) | fail | with_reducible (first | refine zI ?_ | refine zJ ?_ | refine zK ?_ ?_ | refine zL ?_ ?_ | refine And.intro (show logOk _ _ = true by kernel_rfl) ?_) | simp (maxSteps := 10000000) (disch := omega) only [wrap_id, wrap8, max_r, max_l, min_r, min_l] | (with_reducible refine zM (fun hb => ?_) (fun hb => ?_) <;> (try simp only [hb])) | (with_reducible refine And.intro (by first | omega | (simp; done) | (simp; omega)) ?_) | simp (maxSteps := 10000000) (implicitDefEqProofs := false) only [go_sem, Nat.reduceEqDiff, Nat.reduceBEq, ↓reduceIte, Nat.reduceAdd, Nat.reduceMul, Nat.reduceSub, Nat.reduceLeDiff, Nat.reduceLT, reduceCtorEq, Int.reduceLE, Int.reduceLT, Int.reduceToNat, Int.reduceBEq, hp, d0, d1, int_beqL, List.length_map] | fail))
  · have d0 : (pub.length == 32) = false := by simpa using hp
    refine spec_of Try.func7 rfl rfl rfl (by kernel_rfl) rfl fun K => ?_
    (repeat' (first | with_reducible (first | refine zA fun Kn hK => ?_ | refine zB (by kernel_rfl) ?_ | refine zC (by kernel_rfl) (by kernel_rfl) ?_ | refine zD ?_ | refine zN ?_ | refine zF ?_ | refine zG ?_ | refine zH ?_ | (refine hK _ ?_; clear hK Kn) | (clear hK Kn; refine hK _ ?_; clear hK Kn) | (clear hK Kn; clear hK Kn; refine hK _ ?_; clear hK Kn)) | fail | with_reducible (first | refine zI ?_ | refine zJ ?_ | refine zK ?_ ?_ | refine zL ?_ ?_ | refine And.intro (show logOk _ _ = true by kernel_rfl) ?_) | simp (maxSteps := 10000000) (disch := omega) only [wrap_id, wrap8, max_r, max_l, min_r, min_l] | (with_reducible refine zM (fun hb => ?_) (fun hb => ?_) <;> (try simp only [hb])) | (with_reducible refine And.intro (by first | omega | (simp; done) | (simp; omega)) ?_) | simp (maxSteps := 10000000) (implicitDefEqProofs := false) only [go_sem, Nat.reduceEqDiff, Nat.reduceBEq, ↓reduceIte, Nat.reduceAdd, Nat.reduceMul, Nat.reduceSub, Nat.reduceLeDiff, Nat.reduceLT, reduceCtorEq, Int.reduceLE, Int.reduceLT, Int.reduceToNat, Int.reduceBEq, d0, int_beqL, List.length_map] | fail))
theorem ever_bad2 {pub text sig : List UInt8} (lp : pub.length = 32) (ls : sig.length = 64) (h1 : Spec Try.prog G 13 [.c (.sl 32 ((sig.drop 32).map bD))] (.one (.c (.v (.bool false))))) :
    Spec Try.prog G 7 [.c (bytesD pub), .c (bytesD text), .c (bytesD sig)] (.one (.c (.v (.bool false)))) := by
  have d0 : (((32 : Nat) : Int) == 32) = true := rfl
  have d1 : (((64 : Nat) : Int) == 64) = true := rfl
  have hd : (sig.map bD).drop 32 = (sig.drop 32).map bD := by rw [List.map_drop]
  have ht : ((sig.drop 32).map bD).take 32 = (sig.drop 32).map bD := List.take_of_length_le (by rw [List.length_map, List.length_drop, ls]; omega)
  generalize sig.drop 32 = S at *
  refine spec_of Try.func7 rfl rfl rfl (by kernel_rfl) rfl fun K => ?_
  (repeat' (first | with_reducible (first | refine zA fun Kn hK => ?_ | refine zB (by kernel_rfl) ?_ | refine zC (by kernel_rfl) (by kernel_rfl) ?_ | refine zD ?_ | refine zN ?_ | refine zF ?_ | refine zG ?_ | refine zH ?_ | (refine hK _ ?_; clear hK Kn) | (clear hK Kn; refine hK _ ?_; clear hK Kn) | (clear hK Kn; clear hK Kn; refine hK _ ?_; clear hK Kn)) | (refine ⟨_, h1, ?_⟩) | with_reducible (first | refine zI ?_ | refine zJ ?_ | refine zK ?_ ?_ | refine zL ?_ ?_ | refine And.intro (show logOk _ _ = true by kernel_rfl) ?_) | simp (maxSteps := 10000000) (disch := omega) only [wrap_id, wrap8, max_r, max_l, min_r, min_l] | (with_reducible refine zM (fun hb => ?_) (fun hb => ?_) <;> (try simp only [hb])) | (with_reducible refine And.intro (by first | omega | (simp; done) | (simp; omega)) ?_) | simp (maxSteps := 10000000) (implicitDefEqProofs := false) only [go_sem, Nat.reduceEqDiff, Nat.reduceBEq, ↓reduceIte, Nat.reduceAdd, Nat.reduceMul, Nat.reduceSub, Nat.reduceLeDiff, Nat.reduceLT, reduceCtorEq, Int.reduceLE, Int.reduceLT, Int.reduceToNat, Int.reduceBEq, lp, ls, d0, d1, hd, ht, List.length_map] | fail))
theorem ever_w {pub text sig k : List UInt8} {PA PR B Q1 Q2 Q3 : List D} {e1 e2 : Int} {o1 o2 sm : Bool} (lp : pub.length = 32) (ls : sig.length = 64) (lk : k.length = 32) (lA : PA.length = 20) (lR : PR.length = 20) (lB : B.length = 20)
    (he1 : (e1 == 0) = o1) (he2 : (e2 == 0) = o2)
    (h1 : Spec Try.prog G 13 [.c (.sl 32 ((sig.drop 32).map bD))] (.one (.c (.v (.bool true)))))
    (h2 : Spec Try.prog G 14 [.c (.sl 32 (pub.map bD))] (.many [.g PA, .c (.v (.int .i64 e1))]))
    (h3 : Spec Try.prog G 14 [.c (.sl 32 ((sig.take 32).map bD))] (.many [.g PR, .c (.v (.int .i64 e2))]))
    (h4 : o1 = true → o2 = true → Spec Try.prog G 15 [.c (.sl 3 [.sl 32 ((sig.take 32).map bD), .sl 32 (pub.map bD), bytesD text])] (.one (.g (k.map bD))))
    (h5 : Spec Try.prog G 16 [] (.one (.g B)))
    (h6 : o1 = true → o2 = true → Spec Try.prog G 17 [.g B, .g ((sig.drop 32).map bD)] (.one (.g Q1)))
    (h7 : o1 = true → o2 = true → Spec Try.prog G 17 [.g PA, .g (k.map bD)] (.one (.g Q2)))
    (h8 : o1 = true → o2 = true → Spec Try.prog G 19 [.g PR, .g Q2] (.one (.g Q3)))
    (h9 : o1 = true → o2 = true → Spec Try.prog G 18 [.g Q1, .g Q3] (.one (.c (.v (.bool sm))))) :
    Spec Try.prog G 7 [.c (bytesD pub), .c (bytesD text), .c (bytesD sig)] (.one (.c (.v (.bool (o1 && (o2 && sm)))))) := by
  have d0 : (((32 : Nat) : Int) == 32) = true := rfl
  have d1 : (((64 : Nat) : Int) == 64) = true := rfl
  have hd : (sig.map bD).drop 32 = (sig.drop 32).map bD := by rw [List.map_drop]
  have ht : ((sig.drop 32).map bD).take 32 = (sig.drop 32).map bD := List.take_of_length_le (by rw [List.length_map, List.length_drop, ls]; omega)
  have hu : (sig.map bD).take 32 = (sig.take 32).map bD := by rw [List.map_take]
  have lt : (sig.take 32).length = 32 := by rw [List.length_take, ls]; rfl
  have ld : (sig.drop 32).length = 32 := by rw [List.length_drop, ls]
  obtain ⟨a1, a2, a3⟩ := cd_facts lA
  obtain ⟨r1, r2, r3⟩ := cd_facts lR
  obtain ⟨b1, b2, b3⟩ := cd_facts lB
  obtain ⟨c1, c2, c3⟩ := cd_facts (l := k.map bD) (n := 32) (by rw [List.length_map, lk])
  obtain ⟨t1, t2, t3⟩ := cd_facts (l := (sig.drop 32).map bD) (n := 32) (by rw [List.length_map, ld])
  unfold bytesD at h4
  generalize sig.drop 32 = S at *
  generalize sig.take 32 = R at *
  cases o1 with
  | false =>
    rw [Bool.false_and]
    refine spec_of Try.func7 rfl rfl rfl (by kernel_rfl) rfl fun K => ?_
    (repeat' (first | with_reducible (first | refine zA fun Kn hK => ?_ | refine zB (by kernel_rfl) ?_ | refine zC (by kernel_rfl) (by kernel_rfl) ?_ | refine zD ?_ | refine zN ?_ | refine zF ?_ | refine zG ?_ | refine zH ?_ | (refine hK _ ?_; clear hK Kn) | (clear hK Kn; refine hK _ ?_; clear hK Kn) | (clear hK Kn; clear hK Kn; refine hK _ ?_; clear hK Kn)) | (refine ⟨_, h1, ?_⟩) | (refine ⟨_, h2, ?_⟩) | (refine ⟨_, h3, ?_⟩) | with_reducible (first | refine zI ?_ | refine zJ ?_ | refine zK ?_ ?_ | refine zL ?_ ?_ | refine And.intro (show logOk _ _ = true by kernel_rfl) ?_) | simp (maxSteps := 10000000) (disch := omega) only [wrap_id, wrap8, max_r, max_l, min_r, min_l] | (with_reducible refine zM (fun hb => ?_) (fun hb => ?_) <;> (try simp only [hb])) | (with_reducible refine And.intro (by first | omega | (simp; done) | (simp; omega)) ?_) | simp (maxSteps := 10000000) (implicitDefEqProofs := false) only [go_sem, Nat.reduceEqDiff, Nat.reduceBEq, ↓reduceIte, Nat.reduceAdd, Nat.reduceMul, Nat.reduceSub, Nat.reduceLeDiff, Nat.reduceLT, reduceCtorEq, Int.reduceLE, Int.reduceLT, Int.reduceToNat, Int.reduceBEq, lp, ls, d0, d1, hd, ht, hu, lt, ld, lA, lR, lk, lB, Nat.sub_self, List.replicate_zero, a1, a2, a3, r1, r2, r3, he1, Bool.not_false, List.length_map, List.length_replicate, List.drop_replicate, List.append_nil] | fail))
  | true =>
    cases o2 with
    | false =>
      rw [Bool.true_and, Bool.false_and]
      refine spec_of Try.func7 rfl rfl rfl (by kernel_rfl) rfl fun K => ?_
      (repeat' (first | with_reducible (first | refine zA fun Kn hK => ?_ | refine zB (by kernel_rfl) ?_ | refine zC (by kernel_rfl) (by kernel_rfl) ?_ | refine zD ?_ | refine zN ?_ | refine zF ?_ | refine zG ?_ | refine zH ?_ | (refine hK _ ?_; clear hK Kn) | (clear hK Kn; refine hK _ ?_; clear hK Kn) | (clear hK Kn; clear hK Kn; refine hK _ ?_; clear hK Kn)) | (refine ⟨_, h1, ?_⟩) | (refine ⟨_, h2, ?_⟩) | (refine ⟨_, h3, ?_⟩) | with_reducible (first | refine zI ?_ | refine zJ ?_ | refine zK ?_ ?_ | refine zL ?_ ?_ | refine And.intro (show logOk _ _ = true by kernel_rfl) ?_) | simp (maxSteps := 10000000) (disch := omega) only [wrap_id, wrap8, max_r, max_l, min_r, min_l] | (with_reducible refine zM (fun hb => ?_) (fun hb => ?_) <;> (try simp only [hb])) | (with_reducible refine And.intro (by first | omega | (simp; done) | (simp; omega)) ?_) | simp (maxSteps := 10000000) (implicitDefEqProofs := false) only [go_sem, Nat.reduceEqDiff, Nat.reduceBEq, ↓reduceIte, Nat.reduceAdd, Nat.reduceMul, Nat.reduceSub, Nat.reduceLeDiff, Nat.reduceLT, reduceCtorEq, Int.reduceLE, Int.reduceLT, Int.reduceToNat, Int.reduceBEq, lp, ls, d0, d1, hd, ht, hu, lt, ld, lA, lR, lk, lB, Nat.sub_self, List.replicate_zero, a1, a2, a3, r1, r2, r3, he1, he2, Bool.not_false, Bool.not_true, List.length_map, List.length_replicate, List.drop_replicate, List.append_nil] | fail))
    | true =>
      have h4 := h4 rfl rfl
      have h6 := h6 rfl rfl
      have h7 := h7 rfl rfl
      have h8 := h8 rfl rfl
      have h9 := h9 rfl rfl
      rw [Bool.true_and, Bool.true_and]
      refine spec_of Try.func7 rfl rfl rfl (by kernel_rfl) rfl fun K => ?_
      (repeat' (first | with_reducible (first | refine zA fun Kn hK => ?_ | refine zB (by kernel_rfl) ?_ | refine zC (by kernel_rfl) (by kernel_rfl) ?_ | refine zD ?_ | refine zN ?_ | refine zF ?_ | refine zG ?_ | refine zH ?_ | (refine hK _ ?_; clear hK Kn) | (clear hK Kn; refine hK _ ?_; clear hK Kn) | (clear hK Kn; clear hK Kn; refine hK _ ?_; clear hK Kn)) | (refine ⟨none, ?_⟩) | (refine ⟨_, h1, ?_⟩) | (refine ⟨_, h2, ?_⟩) | (refine ⟨_, h3, ?_⟩) | (refine ⟨_, h4, ?_⟩) | (refine ⟨_, h5, ?_⟩) | (refine ⟨_, h6, ?_⟩) | (refine ⟨_, h7, ?_⟩) | (refine ⟨_, h8, ?_⟩) | (refine ⟨_, h9, ?_⟩) | with_reducible (first | refine zI ?_ | refine zJ ?_ | refine zK ?_ ?_ | refine zL ?_ ?_ | refine And.intro (show logOk _ _ = true by kernel_rfl) ?_) | simp (maxSteps := 10000000) (disch := omega) only [wrap_id, wrap8, max_r, max_l, min_r, min_l] | (with_reducible refine zM (fun hb => ?_) (fun hb => ?_) <;> (try simp only [hb])) | (with_reducible refine And.intro (by first | omega | (simp; done) | (simp; omega)) ?_) | simp (maxSteps := 10000000) (implicitDefEqProofs := false) only [go_sem, Nat.reduceEqDiff, Nat.reduceBEq, ↓reduceIte, Nat.reduceAdd, Nat.reduceMul, Nat.reduceSub, Nat.reduceLeDiff, Nat.reduceLT, reduceCtorEq, Int.reduceLE, Int.reduceLT, Int.reduceToNat, Int.reduceBEq, lp, ls, d0, d1, hd, ht, hu, lt, ld, lA, lR, lk, lB, Nat.sub_self, List.replicate_zero, a1, a2, a3, r1, r2, r3, b1, b2, b3, c1, c2, c3, t1, t2, t3, he1, he2, Bool.not_false, Bool.not_true, List.length_map, List.length_replicate, List.drop_replicate, List.append_nil] | fail))
end
end Go.Proofs.Ytkpkiefebipbbaa
/- Signatures held up, by the document: the walk. -/
namespace Go.Proofs.Ytkpkiefebipbbaa
open Go.RowKit
section
variable {G : Nat → Option (List D)}
end
end Go.Proofs.Ytkpkiefebipbbaa
/- The sums' contracts, by data. -/
namespace Go.Proofs.Ytkpkiefebipbbaa
open Go.RowKit
theorem rd_of_sl {w : World} {S : Nat → Prop} {A : Option Addr} {n c : Nat} {xs : List UInt8} (h : Rep.u8.sl w S A n c xs) : RD w S (bytesD xs) (.slice A n c) := by
  obtain ⟨rfl, hnc, hc, hh⟩ := h
  by_cases h0 : 0 < xs.length
  · obtain ⟨b, o, rfl, hb, hr⟩ := hh h0
    refine .sl _ c b o _ (fun i => ((xs.map fun y => Value.int .u8 (y.toNat : Int))[i]?).getD undef) hnc hc hb (fun i x hx => ?_) fun i x hx => ?_
    all_goals
      rw [List.getElem?_map] at hx
      cases hl : xs[i]? with
      | none => rw [hl] at hx; cases hx
      | some y =>
        rw [hl] at hx
        have hx : some (bD y) = some x := hx
        injection hx with hx
        subst hx
        have e : (xs.map fun y => Value.int .u8 (y.toNat : Int))[i]? = some (.int .u8 (y.toNat : Int)) := by simp [hl]
        rw [e]
        first
          | exact .v _ rfl
          | (obtain ⟨es, he, hcc⟩ := hr i y hl
             have he : es = [.int .u8 (y.toNat : Int)] := he
             subst he
             have := hcc 0 _ rfl
             simpa [Rep.u8] using this)
  · have : xs = [] := List.eq_nil_of_length_eq_zero (by omega)
    subst this
    exact .nil A c hc
theorem rows_sl {w : World} {S : Nat → Prop} {ls : List (List UInt8)} {u : Value} (h : RD w S (.sl ls.length (ls.map bytesD)) u) : ∃ A c, u = .slice A ls.length c ∧ Rep.u8.slice.sl w S A ls.length c ls := by
  obtain ⟨A, c, rfl, hn, hcm, hh⟩ := rd_sl h
  refine ⟨A, c, rfl, rfl, hn, hcm, fun hp => ?_⟩
  rcases hh with ⟨h0, _⟩ | ⟨bk, o, us, rfl, hb', h1, h2⟩
  · omega
  · refine ⟨bk, o, rfl, hb', fun i x hx => ?_⟩
    have hi : (ls.map bytesD)[i]? = some (bytesD x) := by rw [List.getElem?_map, hx]; rfl
    obtain ⟨B, k, hB, hs⟩ := bytes_sl (h2 i _ hi) rfl
    refine ⟨[.slice B x.length k], ⟨B, _, k, rfl, hs⟩, fun j v hv => ?_⟩
    cases j with
    | succ j => simp at hv
    | zero =>
      simp at hv
      subst hv
      have := h1 i _ hi
      rw [hB] at this
      simpa [Rep.slice] using this
theorem of_m {G : Nat → Option (List D)} (ls : List (List UInt8)) (hb : ls.flatten.length ≤ 1000000000) : Spec Try.prog G 43 [.c (.sl ls.length (ls.map bytesD))] (.one (.g ((shaL ls.flatten).map bD))) := by
  intro w S vs hS hT hA
  obtain ⟨hl, hc⟩ := hA
  match vs, hl with
  | [u], _ =>
    have hu : RD w S (.sl ls.length (ls.map bytesD)) u := hc 0 _ _ rfl rfl
    obtain ⟨A, c, rfl, hsl⟩ := rows_sl hu
    refine Calls.mono (of_c ls A ls.length c w (Rep.sl_more hsl hS) hb) ?_
    rintro e w1 ⟨rfl, hB1⟩
    generalize shaL ls.flatten = m at *
    refine ⟨⟨hB1.os, hB1.tape, hB1.output, hB1.size, fun k hk _ => hB1.block k hk⟩, _, rfl, ⟨m.map fun x => Value.int .u8 (x.toNat : Int), by simp [bcells], by simp, fun i x v hx hv => ?_⟩⟩
    simp only [List.getElem?_map] at hx hv
    cases hq : m[i]? with
    | none => rw [hq] at hx; cases hx
    | some y =>
      rw [hq] at hx hv
      simp at hx hv
      subst hx hv
      exact .v _ rfl
end Go.Proofs.Ytkpkiefebipbbaa
/- Points by digits: their bytes, a row of one's own. -/
namespace Go.Proofs.Ytkpkiefebipbbaa
open Go.RowKit
section
variable {G : Nat → Option (List D)}
end
end Go.Proofs.Ytkpkiefebipbbaa
/- The document's keys and signatures: the walks. -/
namespace Go.Proofs.Ytkpkiefebipbbaa
open Go.RowKit
section
variable {G : Nat → Option (List D)}
end
end Go.Proofs.Ytkpkiefebipbbaa
/- Keys, signatures: what the program and the document answer. -/
namespace Go.Proofs.Ytkpkiefebipbbaa
open Go.RowKit
/-- The rest of rows' sum. -/
def kR (ls : List (List UInt8)) : Nat := leV (shaL ls.flatten) % lQ
def kB (ls : List (List UInt8)) : List UInt8 := leB (kR ls)
theorem lQ_pos : 0 < lQ := by decide +kernel
theorem lQ_lt : lQ < 2 ^ 256 := by decide +kernel
theorem kR_lt (ls : List (List UInt8)) : kR ls < lQ := Nat.mod_lt _ lQ_pos
theorem kB_len (ls : List (List UInt8)) : (kB ls).length = 32 := leB_len _
theorem kB_val (ls : List (List UInt8)) : leV (kB ls) = kR ls := leV_leB (Nat.lt_trans (kR_lt ls) lQ_lt)
def keyN (seed : List UInt8) : List UInt8 := secN (shaL seed)
theorem keyN_len (seed : List UInt8) : (keyN seed).length = 32 := secN_len (shaL_len seed)
def keyP (seed : List UInt8) : List UInt8 := (shaL seed).drop 32
theorem keyP_len (seed : List UInt8) : (keyP seed).length = 32 := by rw [keyP, List.length_drop, shaL_len]
def pubP (seed : List UInt8) : F × F := nmul (leV (keyN seed)) pB
def pubB (seed : List UInt8) : List UInt8 := encB (pubP seed)
def firstP (seed text : List UInt8) : F × F := nmul (kR [keyP seed, text]) pB
def firstB (seed text : List UInt8) : List UInt8 := encB (firstP seed text)
def lastB (seed text : List UInt8) : List UInt8 := leB (maF (kB [firstB seed text, pubB seed, text]) (keyN seed) (kB [keyP seed, text]))
def sigB (seed text : List UInt8) : List UInt8 := firstB seed text ++ lastB seed text
def verP (pub text sig : List UInt8) : Bool := decide (nmul (leV (sig.drop 32)) pB = pAdd (decP (sig.take 32)) (nmul (kR [sig.take 32, pub, text]) (decP pub)))
def verB (pub text sig : List UInt8) : Bool := if pub.length = 32 ∧ sig.length = 64 ∧ leV (sig.drop 32) < lQ then decOk pub && (decOk (sig.take 32) && verP pub text sig) else false
section
variable {G : Nat → Option (List D)}
theorem erest_m (ls : List (List UInt8)) (hb : ls.flatten.length ≤ 1000000000) : Spec Try.prog G 15 [.c (.sl ls.length (ls.map bytesD))] (.one (.g ((kB ls).map bD))) := by
  have h1 := of_m (G := G) ls hb
  have h2 := reduce_m (G := G) (shaL ls.flatten) (by rw [shaL_len]; omega)
  unfold bytesD at h2
  rw [shaL_len] at h2
  exact erest_w (shaL_len _) (leB_len _) h1 h2
theorem esecret_m (seed : List UInt8) (hb : seed.length ≤ 1000000000) : Spec Try.prog G 27 [.c (bytesD seed)] (.many [.g ((keyN seed).map bD), .c (bytesD (keyP seed))]) := by
  have h := of_m (G := G) [seed] (by simpa using hb)
  rw [show [seed].flatten = seed by simp] at h
  exact secret_w (shaL_len seed) h
theorem epub_m (seed : List UInt8) (ls : seed.length = 32) : Spec Try.prog G 9 [.c (bytesD seed)] (.many [.g ((pubB seed).map bD), .c (.v (.int .i64 0))]) := by
  have h := esecret_m (G := G) seed (by omega)
  have hst := timesP_st PLB_st (keyN_len seed)
  have h3 := timesP_m (G := G) PLB_st (keyN_len seed)
  have h4 := bytesP_m (G := G) hst
  rw [bytesD, ls] at h
  exact epub_w ls (keyN_len seed) (encB_len _) h baseP_m h3 h4
theorem firstP_st (seed text : List UInt8) : St (oP PLB (kB [keyP seed, text]) 64) (firstP seed text) := by
  have h := timesP_st PLB_st (kB_len [keyP seed, text])
  rwa [kB_val] at h
theorem esign_m (seed text : List UInt8) (ls : seed.length = 32) (lt : text.length ≤ 1000000) : Spec Try.prog G 10 [.c (bytesD seed), .c (bytesD text)] (.many [.g ((sigB seed text).map bD), .c (.v (.int .i64 0))]) := by
  have h := esecret_m (G := G) seed (by omega)
  have hst := timesP_st PLB_st (keyN_len seed)
  have h3 := timesP_m (G := G) PLB_st (keyN_len seed)
  have h4 := bytesP_m (G := G) hst
  have h5 := erest_m (G := G) [keyP seed, text] (by simp [keyP_len]; omega)
  have h6 := timesP_m (G := G) PLB_st (kB_len [keyP seed, text])
  have h7 := bytesP_m (G := G) (firstP_st seed text)
  have h8 := erest_m (G := G) [firstB seed text, pubB seed, text] (by simp [firstB, pubB, encB_len]; omega)
  have h9 := mulAdd_m (G := G) (kB [firstB seed text, pubB seed, text]) (keyN seed) (kB [keyP seed, text]) (kB_len _) (keyN_len _) (kB_len _)
  rw [bytesD, ls] at h
  have e1 : bytesD (firstB seed text) = .sl 32 ((firstB seed text).map bD) := by rw [bytesD, firstB, encB_len]
  have e2 : bytesD (pubB seed) = .sl 32 ((pubB seed).map bD) := by rw [bytesD, pubB, encB_len]
  simp only [List.map_cons, List.map_nil, List.length_cons, List.length_nil, e1, e2] at h8
  exact esign_w ls (keyN_len seed) (encB_len _) (encB_len _) (kB_len _) (kB_len _) (leB_len _) (keyP_len seed) (PL.Ok.len PLB_st.ok) h baseP_m h3 h4 h5 h6 h7 h8 h9
theorem ever_m (pub text sig : List UInt8) (lp : pub.length ≤ 1000000) (lt : text.length ≤ 1000000) (lsg : sig.length ≤ 1000000) : Spec Try.prog G 7 [.c (bytesD pub), .c (bytesD text), .c (bytesD sig)] (.one (.c (.v (.bool (verB pub text sig))))) := by
  by_cases h : pub.length = 32 ∧ sig.length = 64
  · obtain ⟨hp, hs⟩ := h
    have ld : (sig.drop 32).length = 32 := by rw [List.length_drop, hs]
    have lk : (sig.take 32).length = 32 := by rw [List.length_take, hs]; rfl
    have h1 := mayS_m (G := G) (sig.drop 32) (by omega)
    unfold bytesD at h1
    rw [ld] at h1
    by_cases hl : leV (sig.drop 32) < lQ
    · rw [decide_eq_true ⟨rfl, hl⟩] at h1
      have hv : verB pub text sig = (decOk pub && (decOk (sig.take 32) && verP pub text sig)) := if_pos ⟨hp, hs, hl⟩
      rw [hv]
      obtain ⟨PA, e1, hA, h2, l2, z2⟩ : ∃ PA e1, ((e1 == (0 : Int)) = decOk pub) ∧ Spec Try.prog G 14 [.c (.sl 32 (pub.map bD))] (.many [.g PA, .c (.v (.int .i64 e1))]) ∧ PA.length = 20 ∧ (decOk pub = true → PA = (decPL pub).D) := by
        have h2 := getP_m (G := G) pub
        rw [bytesD, hp] at h2
        by_cases ho : decOk pub = true
        · rw [if_pos ho] at h2
          exact ⟨_, _, by rw [ho]; rfl, h2, PL.Ok.len (decPL_st ho).ok, fun _ => rfl⟩
        · rw [if_neg ho, decErr, if_pos hp] at h2
          exact ⟨_, _, by rw [Bool.not_eq_true] at ho; rw [ho]; rfl, h2, rfl, fun h => absurd h ho⟩
      obtain ⟨PR, e2, hR, h3, l3, z3⟩ : ∃ PR e2, ((e2 == (0 : Int)) = decOk (sig.take 32)) ∧ Spec Try.prog G 14 [.c (.sl 32 ((sig.take 32).map bD))] (.many [.g PR, .c (.v (.int .i64 e2))]) ∧ PR.length = 20 ∧ (decOk (sig.take 32) = true → PR = (decPL (sig.take 32)).D) := by
        have h2 := getP_m (G := G) (sig.take 32)
        rw [bytesD, lk] at h2
        by_cases ho : decOk (sig.take 32) = true
        · rw [if_pos ho] at h2
          exact ⟨_, _, by rw [ho]; rfl, h2, PL.Ok.len (decPL_st ho).ok, fun _ => rfl⟩
        · rw [if_neg ho, decErr, if_pos lk] at h2
          exact ⟨_, _, by rw [Bool.not_eq_true] at ho; rw [ho]; rfl, h2, rfl, fun h => absurd h ho⟩
      have h4 := erest_m (G := G) [sig.take 32, pub, text] (by simp [hp, hs]; omega)
      have e1 : bytesD (sig.take 32) = .sl 32 ((sig.take 32).map bD) := by rw [bytesD, lk]
      have e2 : bytesD pub = .sl 32 (pub.map bD) := by rw [bytesD, hp]
      simp only [List.map_cons, List.map_nil, List.length_cons, List.length_nil, e1, e2] at h4
      have h6 := timesP_m (G := G) PLB_st ld
      have hk := kB_len [sig.take 32, pub, text]
      refine ever_w (Q1 := (oP PLB (sig.drop 32) 64).D) (Q2 := (oP (decPL pub) (kB [sig.take 32, pub, text]) 64).D) (Q3 := (addPL (decPL (sig.take 32)) (oP (decPL pub) (kB [sig.take 32, pub, text]) 64)).D) hp hs hk l2 l3 (PL.Ok.len PLB_st.ok) hA hR h1 h2 h3 (fun _ _ => h4) baseP_m (fun _ _ => h6) (fun h1 h2 => ?_) (fun h1 h2 => ?_) (fun h1 h2 => ?_)
      · rw [z2 h1]
        exact timesP_m (decPL_st h1) hk
      · rw [z3 h2]
        exact addM_m (decPL_st h2) (timesP_st (decPL_st h1) hk)
      · have hq := timesP_st (decPL_st h1) hk
        rw [kB_val] at hq
        exact sameP_m (timesP_st PLB_st ld) (add_st (decPL_st h2) hq)
    · rw [decide_eq_false fun h => hl h.2] at h1
      have hv : verB pub text sig = false := if_neg fun h => hl h.2.2
      rw [hv]
      exact ever_bad2 hp hs h1
  · have hv : verB pub text sig = false := if_neg fun h2 => h ⟨h2.1, h2.2.1⟩
    rw [hv]
    refine ever_bad1 ?_
    by_cases hp : pub.length = 32
    · exact .inr fun hs => h ⟨hp, hs⟩
    · exact .inl hp
end
end Go.Proofs.Ytkpkiefebipbbaa
/- The document's signatures: the walk. -/
namespace Go.Proofs.Ytkpkiefebipbbaa
open Go.RowKit
section
variable {G : Nat → Option (List D)}
end
end Go.Proofs.Ytkpkiefebipbbaa
/- The public key of thirty-two zeros begins so. -/
namespace Go.Proofs.Ytkpkiefebipbbaa
def zerB : List UInt8 := [0, 0, 0, 0, 0, 0, 0, 0, 0, 0, 0, 0, 0, 0, 0, 0, 0, 0, 0, 0, 0, 0, 0, 0, 0, 0, 0, 0, 0, 0, 0, 0, 128, 0, 0, 0, 0, 0, 0, 0, 0, 0, 0, 0, 0, 0, 0, 0, 0, 0, 0, 0, 0, 0, 0, 0, 0, 0, 0, 0, 0, 0, 0, 0, 0, 0, 0, 0, 0, 0, 0, 0, 0, 0, 0, 0, 0, 0, 0, 0, 0, 0, 0, 0, 0, 0, 0, 0, 0, 0, 0, 0, 0, 0, 0, 0, 0, 0, 0, 0, 0, 0, 0, 0, 0, 0, 0, 0, 0, 0, 0, 0, 0, 0, 0, 0, 0, 0, 0, 0, 0, 0, 0, 0, 0, 0, 1, 0]
def zerW : List UInt64 := [0, 0, 0, 0, 9223372036854775808, 0, 0, 0, 0, 0, 0, 0, 0, 0, 0, 256, 0, 9007199254743044, 0, 4719772426664165376, 9223372036854775808, 361985685131002114, 144132780261900548, 8648063572759674900, 1173187702963572776, 126768607751657609, 13944307785744826688, 2667488058145767452, 2023559755096263684, 3076264096972779889, 1827872124046622896, 8310353164642315215, 12136906272933825081, 15545001212044488457, 14814700502097700868, 12285100419639919475, 9670082501097730335, 5518604699939968887, 9476093506087548489, 9796596215299450625, 5958344982377384288, 12265343076877762427, 12165219924428479518, 1325243823695169124, 11281310535319608749, 1034882804047488912, 1535714187706151253, 649279741799497956, 17459309777971477598, 5500650830056389434, 16562679484493522125, 13945535446963880796, 15567785657537865457, 14580602548817413697, 8635629319549429025, 14777824508854947588, 16911204817919595455, 13700561142527922852, 2574132088199195008, 10308614111758391576, 10852703017310842740, 16082347588028971208, 2184371991873687222, 12033888635545163341, 10419660119830469926, 8585216435925201857, 14386434745505789993, 7139669067458878980, 16562904965169700491, 18303181280394127650, 7589255923654424011, 10370349966052406001, 9383377643078173111, 7113417478183963821, 9287236787583809989, 7025827219752386637, 2720506219950445715, 11463598587821378836, 11074598858778813994, 3215546073741905920]
theorem zer_w0 : wordsOf zerB 0 = zerW.take 0 := rfl
theorem zer_w1 : wordsOf zerB 1 = zerW.take 1 := by
  rw [wordsOf, zer_w0]
  decide +kernel
theorem zer_w2 : wordsOf zerB 2 = zerW.take 2 := by
  rw [wordsOf, zer_w1]
  decide +kernel
theorem zer_w3 : wordsOf zerB 3 = zerW.take 3 := by
  rw [wordsOf, zer_w2]
  decide +kernel
theorem zer_w4 : wordsOf zerB 4 = zerW.take 4 := by
  rw [wordsOf, zer_w3]
  decide +kernel
theorem zer_w5 : wordsOf zerB 5 = zerW.take 5 := by
  rw [wordsOf, zer_w4]
  decide +kernel
theorem zer_w6 : wordsOf zerB 6 = zerW.take 6 := by
  rw [wordsOf, zer_w5]
  decide +kernel
theorem zer_w7 : wordsOf zerB 7 = zerW.take 7 := by
  rw [wordsOf, zer_w6]
  decide +kernel
theorem zer_w8 : wordsOf zerB 8 = zerW.take 8 := by
  rw [wordsOf, zer_w7]
  decide +kernel
theorem zer_w9 : wordsOf zerB 9 = zerW.take 9 := by
  rw [wordsOf, zer_w8]
  decide +kernel
theorem zer_w10 : wordsOf zerB 10 = zerW.take 10 := by
  rw [wordsOf, zer_w9]
  decide +kernel
theorem zer_w11 : wordsOf zerB 11 = zerW.take 11 := by
  rw [wordsOf, zer_w10]
  decide +kernel
theorem zer_w12 : wordsOf zerB 12 = zerW.take 12 := by
  rw [wordsOf, zer_w11]
  decide +kernel
theorem zer_w13 : wordsOf zerB 13 = zerW.take 13 := by
  rw [wordsOf, zer_w12]
  decide +kernel
theorem zer_w14 : wordsOf zerB 14 = zerW.take 14 := by
  rw [wordsOf, zer_w13]
  decide +kernel
theorem zer_w15 : wordsOf zerB 15 = zerW.take 15 := by
  rw [wordsOf, zer_w14]
  decide +kernel
theorem zer_w16 : wordsOf zerB 16 = zerW.take 16 := by
  rw [wordsOf, zer_w15]
  decide +kernel
theorem zer_w17 : wordsOf zerB 17 = zerW.take 17 := by
  rw [wordsOf, zer_w16]
  decide +kernel
theorem zer_w18 : wordsOf zerB 18 = zerW.take 18 := by
  rw [wordsOf, zer_w17]
  decide +kernel
theorem zer_w19 : wordsOf zerB 19 = zerW.take 19 := by
  rw [wordsOf, zer_w18]
  decide +kernel
theorem zer_w20 : wordsOf zerB 20 = zerW.take 20 := by
  rw [wordsOf, zer_w19]
  decide +kernel
theorem zer_w21 : wordsOf zerB 21 = zerW.take 21 := by
  rw [wordsOf, zer_w20]
  decide +kernel
theorem zer_w22 : wordsOf zerB 22 = zerW.take 22 := by
  rw [wordsOf, zer_w21]
  decide +kernel
theorem zer_w23 : wordsOf zerB 23 = zerW.take 23 := by
  rw [wordsOf, zer_w22]
  decide +kernel
theorem zer_w24 : wordsOf zerB 24 = zerW.take 24 := by
  rw [wordsOf, zer_w23]
  decide +kernel
theorem zer_w25 : wordsOf zerB 25 = zerW.take 25 := by
  rw [wordsOf, zer_w24]
  decide +kernel
theorem zer_w26 : wordsOf zerB 26 = zerW.take 26 := by
  rw [wordsOf, zer_w25]
  decide +kernel
theorem zer_w27 : wordsOf zerB 27 = zerW.take 27 := by
  rw [wordsOf, zer_w26]
  decide +kernel
theorem zer_w28 : wordsOf zerB 28 = zerW.take 28 := by
  rw [wordsOf, zer_w27]
  decide +kernel
theorem zer_w29 : wordsOf zerB 29 = zerW.take 29 := by
  rw [wordsOf, zer_w28]
  decide +kernel
theorem zer_w30 : wordsOf zerB 30 = zerW.take 30 := by
  rw [wordsOf, zer_w29]
  decide +kernel
theorem zer_w31 : wordsOf zerB 31 = zerW.take 31 := by
  rw [wordsOf, zer_w30]
  decide +kernel
theorem zer_w32 : wordsOf zerB 32 = zerW.take 32 := by
  rw [wordsOf, zer_w31]
  decide +kernel
theorem zer_w33 : wordsOf zerB 33 = zerW.take 33 := by
  rw [wordsOf, zer_w32]
  decide +kernel
theorem zer_w34 : wordsOf zerB 34 = zerW.take 34 := by
  rw [wordsOf, zer_w33]
  decide +kernel
theorem zer_w35 : wordsOf zerB 35 = zerW.take 35 := by
  rw [wordsOf, zer_w34]
  decide +kernel
theorem zer_w36 : wordsOf zerB 36 = zerW.take 36 := by
  rw [wordsOf, zer_w35]
  decide +kernel
theorem zer_w37 : wordsOf zerB 37 = zerW.take 37 := by
  rw [wordsOf, zer_w36]
  decide +kernel
theorem zer_w38 : wordsOf zerB 38 = zerW.take 38 := by
  rw [wordsOf, zer_w37]
  decide +kernel
theorem zer_w39 : wordsOf zerB 39 = zerW.take 39 := by
  rw [wordsOf, zer_w38]
  decide +kernel
theorem zer_w40 : wordsOf zerB 40 = zerW.take 40 := by
  rw [wordsOf, zer_w39]
  decide +kernel
theorem zer_w41 : wordsOf zerB 41 = zerW.take 41 := by
  rw [wordsOf, zer_w40]
  decide +kernel
theorem zer_w42 : wordsOf zerB 42 = zerW.take 42 := by
  rw [wordsOf, zer_w41]
  decide +kernel
theorem zer_w43 : wordsOf zerB 43 = zerW.take 43 := by
  rw [wordsOf, zer_w42]
  decide +kernel
theorem zer_w44 : wordsOf zerB 44 = zerW.take 44 := by
  rw [wordsOf, zer_w43]
  decide +kernel
theorem zer_w45 : wordsOf zerB 45 = zerW.take 45 := by
  rw [wordsOf, zer_w44]
  decide +kernel
theorem zer_w46 : wordsOf zerB 46 = zerW.take 46 := by
  rw [wordsOf, zer_w45]
  decide +kernel
theorem zer_w47 : wordsOf zerB 47 = zerW.take 47 := by
  rw [wordsOf, zer_w46]
  decide +kernel
theorem zer_w48 : wordsOf zerB 48 = zerW.take 48 := by
  rw [wordsOf, zer_w47]
  decide +kernel
theorem zer_w49 : wordsOf zerB 49 = zerW.take 49 := by
  rw [wordsOf, zer_w48]
  decide +kernel
theorem zer_w50 : wordsOf zerB 50 = zerW.take 50 := by
  rw [wordsOf, zer_w49]
  decide +kernel
theorem zer_w51 : wordsOf zerB 51 = zerW.take 51 := by
  rw [wordsOf, zer_w50]
  decide +kernel
theorem zer_w52 : wordsOf zerB 52 = zerW.take 52 := by
  rw [wordsOf, zer_w51]
  decide +kernel
theorem zer_w53 : wordsOf zerB 53 = zerW.take 53 := by
  rw [wordsOf, zer_w52]
  decide +kernel
theorem zer_w54 : wordsOf zerB 54 = zerW.take 54 := by
  rw [wordsOf, zer_w53]
  decide +kernel
theorem zer_w55 : wordsOf zerB 55 = zerW.take 55 := by
  rw [wordsOf, zer_w54]
  decide +kernel
theorem zer_w56 : wordsOf zerB 56 = zerW.take 56 := by
  rw [wordsOf, zer_w55]
  decide +kernel
theorem zer_w57 : wordsOf zerB 57 = zerW.take 57 := by
  rw [wordsOf, zer_w56]
  decide +kernel
theorem zer_w58 : wordsOf zerB 58 = zerW.take 58 := by
  rw [wordsOf, zer_w57]
  decide +kernel
theorem zer_w59 : wordsOf zerB 59 = zerW.take 59 := by
  rw [wordsOf, zer_w58]
  decide +kernel
theorem zer_w60 : wordsOf zerB 60 = zerW.take 60 := by
  rw [wordsOf, zer_w59]
  decide +kernel
theorem zer_w61 : wordsOf zerB 61 = zerW.take 61 := by
  rw [wordsOf, zer_w60]
  decide +kernel
theorem zer_w62 : wordsOf zerB 62 = zerW.take 62 := by
  rw [wordsOf, zer_w61]
  decide +kernel
theorem zer_w63 : wordsOf zerB 63 = zerW.take 63 := by
  rw [wordsOf, zer_w62]
  decide +kernel
theorem zer_w64 : wordsOf zerB 64 = zerW.take 64 := by
  rw [wordsOf, zer_w63]
  decide +kernel
theorem zer_w65 : wordsOf zerB 65 = zerW.take 65 := by
  rw [wordsOf, zer_w64]
  decide +kernel
theorem zer_w66 : wordsOf zerB 66 = zerW.take 66 := by
  rw [wordsOf, zer_w65]
  decide +kernel
theorem zer_w67 : wordsOf zerB 67 = zerW.take 67 := by
  rw [wordsOf, zer_w66]
  decide +kernel
theorem zer_w68 : wordsOf zerB 68 = zerW.take 68 := by
  rw [wordsOf, zer_w67]
  decide +kernel
theorem zer_w69 : wordsOf zerB 69 = zerW.take 69 := by
  rw [wordsOf, zer_w68]
  decide +kernel
theorem zer_w70 : wordsOf zerB 70 = zerW.take 70 := by
  rw [wordsOf, zer_w69]
  decide +kernel
theorem zer_w71 : wordsOf zerB 71 = zerW.take 71 := by
  rw [wordsOf, zer_w70]
  decide +kernel
theorem zer_w72 : wordsOf zerB 72 = zerW.take 72 := by
  rw [wordsOf, zer_w71]
  decide +kernel
theorem zer_w73 : wordsOf zerB 73 = zerW.take 73 := by
  rw [wordsOf, zer_w72]
  decide +kernel
theorem zer_w74 : wordsOf zerB 74 = zerW.take 74 := by
  rw [wordsOf, zer_w73]
  decide +kernel
theorem zer_w75 : wordsOf zerB 75 = zerW.take 75 := by
  rw [wordsOf, zer_w74]
  decide +kernel
theorem zer_w76 : wordsOf zerB 76 = zerW.take 76 := by
  rw [wordsOf, zer_w75]
  decide +kernel
theorem zer_w77 : wordsOf zerB 77 = zerW.take 77 := by
  rw [wordsOf, zer_w76]
  decide +kernel
theorem zer_w78 : wordsOf zerB 78 = zerW.take 78 := by
  rw [wordsOf, zer_w77]
  decide +kernel
theorem zer_w79 : wordsOf zerB 79 = zerW.take 79 := by
  rw [wordsOf, zer_w78]
  decide +kernel
theorem zer_w80 : wordsOf zerB 80 = zerW.take 80 := by
  rw [wordsOf, zer_w79]
  decide +kernel
theorem zer_r0 : roundsW ks0 zerW st0 0 = [7640891576956012808, 13503953896175478587, 4354685564936845355, 11912009170470909681, 5840696475078001361, 11170449401992604703, 2270897969802886507, 6620516959819538809] := by decide +kernel
theorem zer_r1 : roundsW ks0 zerW st0 1 = [10758372976291012085, 7640891576956012808, 13503953896175478587, 4354685564936845355, 17827673622936100753, 5840696475078001361, 11170449401992604703, 2270897969802886507] := by
  rw [roundsW, zer_r0]
  decide +kernel
theorem zer_r2 : roundsW ks0 zerW st0 2 = [11115036946241619673, 10758372976291012085, 7640891576956012808, 13503953896175478587, 9932265545342369336, 17827673622936100753, 5840696475078001361, 11170449401992604703] := by
  rw [roundsW, zer_r1]
  decide +kernel
theorem zer_r3 : roundsW ks0 zerW st0 3 = [4126266364255868068, 11115036946241619673, 10758372976291012085, 7640891576956012808, 4897852136903073097, 9932265545342369336, 17827673622936100753, 5840696475078001361] := by
  rw [roundsW, zer_r2]
  decide +kernel
theorem zer_r4 : roundsW ks0 zerW st0 4 = [5343641584730768695, 4126266364255868068, 11115036946241619673, 10758372976291012085, 16523341605267860574, 4897852136903073097, 9932265545342369336, 17827673622936100753] := by
  rw [roundsW, zer_r3]
  decide +kernel
theorem zer_r5 : roundsW ks0 zerW st0 5 = [11168902456601489605, 5343641584730768695, 4126266364255868068, 11115036946241619673, 627079433320757529, 16523341605267860574, 4897852136903073097, 9932265545342369336] := by
  rw [roundsW, zer_r4]
  decide +kernel
theorem zer_r6 : roundsW ks0 zerW st0 6 = [1302396440103629798, 11168902456601489605, 5343641584730768695, 4126266364255868068, 14806635048689895951, 627079433320757529, 16523341605267860574, 4897852136903073097] := by
  rw [roundsW, zer_r5]
  decide +kernel
theorem zer_r7 : roundsW ks0 zerW st0 7 = [15200776334310210592, 1302396440103629798, 11168902456601489605, 5343641584730768695, 15174314027989733557, 14806635048689895951, 627079433320757529, 16523341605267860574] := by
  rw [roundsW, zer_r6]
  decide +kernel
theorem zer_r8 : roundsW ks0 zerW st0 8 = [17208046804368280137, 15200776334310210592, 1302396440103629798, 11168902456601489605, 9272832003298536862, 15174314027989733557, 14806635048689895951, 627079433320757529] := by
  rw [roundsW, zer_r7]
  decide +kernel
theorem zer_r9 : roundsW ks0 zerW st0 9 = [8492703388701907715, 17208046804368280137, 15200776334310210592, 1302396440103629798, 16034440948875958624, 9272832003298536862, 15174314027989733557, 14806635048689895951] := by
  rw [roundsW, zer_r8]
  decide +kernel
theorem zer_r10 : roundsW ks0 zerW st0 10 = [7755397839558790253, 8492703388701907715, 17208046804368280137, 15200776334310210592, 13502761422932650927, 16034440948875958624, 9272832003298536862, 15174314027989733557] := by
  rw [roundsW, zer_r9]
  decide +kernel
theorem zer_r11 : roundsW ks0 zerW st0 11 = [7030135620985194732, 7755397839558790253, 8492703388701907715, 17208046804368280137, 2096611521171684090, 13502761422932650927, 16034440948875958624, 9272832003298536862] := by
  rw [roundsW, zer_r10]
  decide +kernel
theorem zer_r12 : roundsW ks0 zerW st0 12 = [2312015059832132880, 7030135620985194732, 7755397839558790253, 8492703388701907715, 13672406949288936619, 2096611521171684090, 13502761422932650927, 16034440948875958624] := by
  rw [roundsW, zer_r11]
  decide +kernel
theorem zer_r13 : roundsW ks0 zerW st0 13 = [16523165081541911161, 2312015059832132880, 7030135620985194732, 7755397839558790253, 16941445236327295330, 13672406949288936619, 2096611521171684090, 13502761422932650927] := by
  rw [roundsW, zer_r12]
  decide +kernel
theorem zer_r14 : roundsW ks0 zerW st0 14 = [5830777752747395166, 16523165081541911161, 2312015059832132880, 7030135620985194732, 18281535139762694881, 16941445236327295330, 13672406949288936619, 2096611521171684090] := by
  rw [roundsW, zer_r13]
  decide +kernel
theorem zer_r15 : roundsW ks0 zerW st0 15 = [10783373218667509365, 5830777752747395166, 16523165081541911161, 2312015059832132880, 2421145553396808227, 18281535139762694881, 16941445236327295330, 13672406949288936619] := by
  rw [roundsW, zer_r14]
  decide +kernel
theorem zer_r16 : roundsW ks0 zerW st0 16 = [4479050482935558316, 10783373218667509365, 5830777752747395166, 16523165081541911161, 851941326718768001, 2421145553396808227, 18281535139762694881, 16941445236327295330] := by
  rw [roundsW, zer_r15]
  decide +kernel
theorem zer_r17 : roundsW ks0 zerW st0 17 = [11702245667014225582, 4479050482935558316, 10783373218667509365, 5830777752747395166, 17300981003431507799, 851941326718768001, 2421145553396808227, 18281535139762694881] := by
  rw [roundsW, zer_r16]
  decide +kernel
theorem zer_r18 : roundsW ks0 zerW st0 18 = [3280029084718757303, 11702245667014225582, 4479050482935558316, 10783373218667509365, 16714166088777974375, 17300981003431507799, 851941326718768001, 2421145553396808227] := by
  rw [roundsW, zer_r17]
  decide +kernel
theorem zer_r19 : roundsW ks0 zerW st0 19 = [7259474283948259824, 3280029084718757303, 11702245667014225582, 4479050482935558316, 7521305024183279694, 16714166088777974375, 17300981003431507799, 851941326718768001] := by
  rw [roundsW, zer_r18]
  decide +kernel
theorem zer_r20 : roundsW ks0 zerW st0 20 = [12603740802078081619, 7259474283948259824, 3280029084718757303, 11702245667014225582, 2439087024015677111, 7521305024183279694, 16714166088777974375, 17300981003431507799] := by
  rw [roundsW, zer_r19]
  decide +kernel
theorem zer_r21 : roundsW ks0 zerW st0 21 = [1537361645710774433, 12603740802078081619, 7259474283948259824, 3280029084718757303, 3061020130476478910, 2439087024015677111, 7521305024183279694, 16714166088777974375] := by
  rw [roundsW, zer_r20]
  decide +kernel
theorem zer_r22 : roundsW ks0 zerW st0 22 = [2396587261501461511, 1537361645710774433, 12603740802078081619, 7259474283948259824, 18327999007697665139, 3061020130476478910, 2439087024015677111, 7521305024183279694] := by
  rw [roundsW, zer_r21]
  decide +kernel
theorem zer_r23 : roundsW ks0 zerW st0 23 = [15578081726648313859, 2396587261501461511, 1537361645710774433, 12603740802078081619, 5182447908206143290, 18327999007697665139, 3061020130476478910, 2439087024015677111] := by
  rw [roundsW, zer_r22]
  decide +kernel
theorem zer_r24 : roundsW ks0 zerW st0 24 = [5464896530425090686, 15578081726648313859, 2396587261501461511, 1537361645710774433, 4489227580986569443, 5182447908206143290, 18327999007697665139, 3061020130476478910] := by
  rw [roundsW, zer_r23]
  decide +kernel
theorem zer_r25 : roundsW ks0 zerW st0 25 = [8079588423635971269, 5464896530425090686, 15578081726648313859, 2396587261501461511, 963291311694375013, 4489227580986569443, 5182447908206143290, 18327999007697665139] := by
  rw [roundsW, zer_r24]
  decide +kernel
theorem zer_r26 : roundsW ks0 zerW st0 26 = [8590249264134269809, 8079588423635971269, 5464896530425090686, 15578081726648313859, 8078194955157153449, 963291311694375013, 4489227580986569443, 5182447908206143290] := by
  rw [roundsW, zer_r25]
  decide +kernel
theorem zer_r27 : roundsW ks0 zerW st0 27 = [7463697391145966002, 8590249264134269809, 8079588423635971269, 5464896530425090686, 10553505094661485635, 8078194955157153449, 963291311694375013, 4489227580986569443] := by
  rw [roundsW, zer_r26]
  decide +kernel
theorem zer_r28 : roundsW ks0 zerW st0 28 = [3706265178671430226, 7463697391145966002, 8590249264134269809, 8079588423635971269, 10628536666645987242, 10553505094661485635, 8078194955157153449, 963291311694375013] := by
  rw [roundsW, zer_r27]
  decide +kernel
theorem zer_r29 : roundsW ks0 zerW st0 29 = [3525803993081217942, 3706265178671430226, 7463697391145966002, 8590249264134269809, 13287781554297122783, 10628536666645987242, 10553505094661485635, 8078194955157153449] := by
  rw [roundsW, zer_r28]
  decide +kernel
theorem zer_r30 : roundsW ks0 zerW st0 30 = [7047087411074569085, 3525803993081217942, 3706265178671430226, 7463697391145966002, 13566656608276548562, 13287781554297122783, 10628536666645987242, 10553505094661485635] := by
  rw [roundsW, zer_r29]
  decide +kernel
theorem zer_r31 : roundsW ks0 zerW st0 31 = [5664254687711525247, 7047087411074569085, 3525803993081217942, 3706265178671430226, 13874964982419472308, 13566656608276548562, 13287781554297122783, 10628536666645987242] := by
  rw [roundsW, zer_r30]
  decide +kernel
theorem zer_r32 : roundsW ks0 zerW st0 32 = [14726941729103868001, 5664254687711525247, 7047087411074569085, 3525803993081217942, 5173953181071844509, 13874964982419472308, 13566656608276548562, 13287781554297122783] := by
  rw [roundsW, zer_r31]
  decide +kernel
theorem zer_r33 : roundsW ks0 zerW st0 33 = [7020929409684525903, 14726941729103868001, 5664254687711525247, 7047087411074569085, 5615751895262237939, 5173953181071844509, 13874964982419472308, 13566656608276548562] := by
  rw [roundsW, zer_r32]
  decide +kernel
theorem zer_r34 : roundsW ks0 zerW st0 34 = [8461667706126069220, 7020929409684525903, 14726941729103868001, 5664254687711525247, 4941752670844118600, 5615751895262237939, 5173953181071844509, 13874964982419472308] := by
  rw [roundsW, zer_r33]
  decide +kernel
theorem zer_r35 : roundsW ks0 zerW st0 35 = [379464524265310633, 8461667706126069220, 7020929409684525903, 14726941729103868001, 16203679033354392874, 4941752670844118600, 5615751895262237939, 5173953181071844509] := by
  rw [roundsW, zer_r34]
  decide +kernel
theorem zer_r36 : roundsW ks0 zerW st0 36 = [15549802313875602274, 379464524265310633, 8461667706126069220, 7020929409684525903, 14712077907107959277, 16203679033354392874, 4941752670844118600, 5615751895262237939] := by
  rw [roundsW, zer_r35]
  decide +kernel
theorem zer_r37 : roundsW ks0 zerW st0 37 = [17263284987263657958, 15549802313875602274, 379464524265310633, 8461667706126069220, 16337914719854201846, 14712077907107959277, 16203679033354392874, 4941752670844118600] := by
  rw [roundsW, zer_r36]
  decide +kernel
theorem zer_r38 : roundsW ks0 zerW st0 38 = [14638953785217629854, 17263284987263657958, 15549802313875602274, 379464524265310633, 6531442153746177128, 16337914719854201846, 14712077907107959277, 16203679033354392874] := by
  rw [roundsW, zer_r37]
  decide +kernel
theorem zer_r39 : roundsW ks0 zerW st0 39 = [18014955160550453689, 14638953785217629854, 17263284987263657958, 15549802313875602274, 14194663295104695616, 6531442153746177128, 16337914719854201846, 14712077907107959277] := by
  rw [roundsW, zer_r38]
  decide +kernel
theorem zer_r40 : roundsW ks0 zerW st0 40 = [6109844019387451280, 18014955160550453689, 14638953785217629854, 17263284987263657958, 4534933068400390657, 14194663295104695616, 6531442153746177128, 16337914719854201846] := by
  rw [roundsW, zer_r39]
  decide +kernel
theorem zer_r41 : roundsW ks0 zerW st0 41 = [3934753730757518807, 6109844019387451280, 18014955160550453689, 14638953785217629854, 7262160739443047838, 4534933068400390657, 14194663295104695616, 6531442153746177128] := by
  rw [roundsW, zer_r40]
  decide +kernel
theorem zer_r42 : roundsW ks0 zerW st0 42 = [11221941365251729549, 3934753730757518807, 6109844019387451280, 18014955160550453689, 5752790583666708941, 7262160739443047838, 4534933068400390657, 14194663295104695616] := by
  rw [roundsW, zer_r41]
  decide +kernel
theorem zer_r43 : roundsW ks0 zerW st0 43 = [12170060852399267806, 11221941365251729549, 3934753730757518807, 6109844019387451280, 4863095209128836662, 5752790583666708941, 7262160739443047838, 4534933068400390657] := by
  rw [roundsW, zer_r42]
  decide +kernel
theorem zer_r44 : roundsW ks0 zerW st0 44 = [15552401992348485791, 12170060852399267806, 11221941365251729549, 3934753730757518807, 8352703515361797755, 4863095209128836662, 5752790583666708941, 7262160739443047838] := by
  rw [roundsW, zer_r43]
  decide +kernel
theorem zer_r45 : roundsW ks0 zerW st0 45 = [7917789096369028140, 15552401992348485791, 12170060852399267806, 11221941365251729549, 337867160903401868, 8352703515361797755, 4863095209128836662, 5752790583666708941] := by
  rw [roundsW, zer_r44]
  decide +kernel
theorem zer_r46 : roundsW ks0 zerW st0 46 = [5980717885382567603, 7917789096369028140, 15552401992348485791, 12170060852399267806, 10992113497116646001, 337867160903401868, 8352703515361797755, 4863095209128836662] := by
  rw [roundsW, zer_r45]
  decide +kernel
theorem zer_r47 : roundsW ks0 zerW st0 47 = [2164993625293247554, 5980717885382567603, 7917789096369028140, 15552401992348485791, 16909216741560437109, 10992113497116646001, 337867160903401868, 8352703515361797755] := by
  rw [roundsW, zer_r46]
  decide +kernel
theorem zer_r48 : roundsW ks0 zerW st0 48 = [6484337866056519823, 2164993625293247554, 5980717885382567603, 7917789096369028140, 11893120751304626942, 16909216741560437109, 10992113497116646001, 337867160903401868] := by
  rw [roundsW, zer_r47]
  decide +kernel
theorem zer_r49 : roundsW ks0 zerW st0 49 = [4514939707137230467, 6484337866056519823, 2164993625293247554, 5980717885382567603, 1125160240832120182, 11893120751304626942, 16909216741560437109, 10992113497116646001] := by
  rw [roundsW, zer_r48]
  decide +kernel
theorem zer_r50 : roundsW ks0 zerW st0 50 = [15645523297110002428, 4514939707137230467, 6484337866056519823, 2164993625293247554, 3626739556018553871, 1125160240832120182, 11893120751304626942, 16909216741560437109] := by
  rw [roundsW, zer_r49]
  decide +kernel
theorem zer_r51 : roundsW ks0 zerW st0 51 = [16447334635902428014, 15645523297110002428, 4514939707137230467, 6484337866056519823, 14023129358220355687, 3626739556018553871, 1125160240832120182, 11893120751304626942] := by
  rw [roundsW, zer_r50]
  decide +kernel
theorem zer_r52 : roundsW ks0 zerW st0 52 = [17023595609519142724, 16447334635902428014, 15645523297110002428, 4514939707137230467, 11177193476556092421, 14023129358220355687, 3626739556018553871, 1125160240832120182] := by
  rw [roundsW, zer_r51]
  decide +kernel
theorem zer_r53 : roundsW ks0 zerW st0 53 = [6401030026082633268, 17023595609519142724, 16447334635902428014, 15645523297110002428, 15308037697050920686, 11177193476556092421, 14023129358220355687, 3626739556018553871] := by
  rw [roundsW, zer_r52]
  decide +kernel
theorem zer_r54 : roundsW ks0 zerW st0 54 = [14333128423172872232, 6401030026082633268, 17023595609519142724, 16447334635902428014, 15298117696424949212, 15308037697050920686, 11177193476556092421, 14023129358220355687] := by
  rw [roundsW, zer_r53]
  decide +kernel
theorem zer_r55 : roundsW ks0 zerW st0 55 = [2340657871528695503, 14333128423172872232, 6401030026082633268, 17023595609519142724, 6818534125984460103, 15298117696424949212, 15308037697050920686, 11177193476556092421] := by
  rw [roundsW, zer_r54]
  decide +kernel
theorem zer_r56 : roundsW ks0 zerW st0 56 = [17181778841757954467, 2340657871528695503, 14333128423172872232, 6401030026082633268, 15841754175645970547, 6818534125984460103, 15298117696424949212, 15308037697050920686] := by
  rw [roundsW, zer_r55]
  decide +kernel
theorem zer_r57 : roundsW ks0 zerW st0 57 = [8316550594923792609, 17181778841757954467, 2340657871528695503, 14333128423172872232, 5658120392235887474, 15841754175645970547, 6818534125984460103, 15298117696424949212] := by
  rw [roundsW, zer_r56]
  decide +kernel
theorem zer_r58 : roundsW ks0 zerW st0 58 = [16525350475053332148, 8316550594923792609, 17181778841757954467, 2340657871528695503, 15136793916924334787, 5658120392235887474, 15841754175645970547, 6818534125984460103] := by
  rw [roundsW, zer_r57]
  decide +kernel
theorem zer_r59 : roundsW ks0 zerW st0 59 = [16732118037317178048, 16525350475053332148, 8316550594923792609, 17181778841757954467, 3774921253118411700, 15136793916924334787, 5658120392235887474, 15841754175645970547] := by
  rw [roundsW, zer_r58]
  decide +kernel
theorem zer_r60 : roundsW ks0 zerW st0 60 = [10477334923476079977, 16732118037317178048, 16525350475053332148, 8316550594923792609, 4564036060695640955, 3774921253118411700, 15136793916924334787, 5658120392235887474] := by
  rw [roundsW, zer_r59]
  decide +kernel
theorem zer_r61 : roundsW ks0 zerW st0 61 = [1675981542843284747, 10477334923476079977, 16732118037317178048, 16525350475053332148, 825740300549928085, 4564036060695640955, 3774921253118411700, 15136793916924334787] := by
  rw [roundsW, zer_r60]
  decide +kernel
theorem zer_r62 : roundsW ks0 zerW st0 62 = [18002758202473554379, 1675981542843284747, 10477334923476079977, 16732118037317178048, 4891636288461320038, 825740300549928085, 4564036060695640955, 3774921253118411700] := by
  rw [roundsW, zer_r61]
  decide +kernel
theorem zer_r63 : roundsW ks0 zerW st0 63 = [18349958183428923895, 18002758202473554379, 1675981542843284747, 10477334923476079977, 12384616198518925361, 4891636288461320038, 825740300549928085, 4564036060695640955] := by
  rw [roundsW, zer_r62]
  decide +kernel
theorem zer_r64 : roundsW ks0 zerW st0 64 = [14263519478537648808, 18349958183428923895, 18002758202473554379, 1675981542843284747, 3806274531594431357, 12384616198518925361, 4891636288461320038, 825740300549928085] := by
  rw [roundsW, zer_r63]
  decide +kernel
theorem zer_r65 : roundsW ks0 zerW st0 65 = [2518871767924734864, 14263519478537648808, 18349958183428923895, 18002758202473554379, 10885499170187179968, 3806274531594431357, 12384616198518925361, 4891636288461320038] := by
  rw [roundsW, zer_r64]
  decide +kernel
theorem zer_r66 : roundsW ks0 zerW st0 66 = [10167427158072057591, 2518871767924734864, 14263519478537648808, 18349958183428923895, 14923328952548945946, 10885499170187179968, 3806274531594431357, 12384616198518925361] := by
  rw [roundsW, zer_r65]
  decide +kernel
theorem zer_r67 : roundsW ks0 zerW st0 67 = [6453938761489340098, 10167427158072057591, 2518871767924734864, 14263519478537648808, 7469784290968133967, 14923328952548945946, 10885499170187179968, 3806274531594431357] := by
  rw [roundsW, zer_r66]
  decide +kernel
theorem zer_r68 : roundsW ks0 zerW st0 68 = [15156157019208777747, 6453938761489340098, 10167427158072057591, 2518871767924734864, 14829823243297303650, 7469784290968133967, 14923328952548945946, 10885499170187179968] := by
  rw [roundsW, zer_r67]
  decide +kernel
theorem zer_r69 : roundsW ks0 zerW st0 69 = [17406653508796741912, 15156157019208777747, 6453938761489340098, 10167427158072057591, 2125308069535244253, 14829823243297303650, 7469784290968133967, 14923328952548945946] := by
  rw [roundsW, zer_r68]
  decide +kernel
theorem zer_r70 : roundsW ks0 zerW st0 70 = [1570791217848826313, 17406653508796741912, 15156157019208777747, 6453938761489340098, 8272582750246839156, 2125308069535244253, 14829823243297303650, 7469784290968133967] := by
  rw [roundsW, zer_r69]
  decide +kernel
theorem zer_r71 : roundsW ks0 zerW st0 71 = [14488324544568235627, 1570791217848826313, 17406653508796741912, 15156157019208777747, 10039812137888914178, 8272582750246839156, 2125308069535244253, 14829823243297303650] := by
  rw [roundsW, zer_r70]
  decide +kernel
theorem zer_r72 : roundsW ks0 zerW st0 72 = [13060178779355539256, 14488324544568235627, 1570791217848826313, 17406653508796741912, 8486314926255750478, 10039812137888914178, 8272582750246839156, 2125308069535244253] := by
  rw [roundsW, zer_r71]
  decide +kernel
theorem zer_r73 : roundsW ks0 zerW st0 73 = [18328841029446720343, 13060178779355539256, 14488324544568235627, 1570791217848826313, 6817047941946052733, 8486314926255750478, 10039812137888914178, 8272582750246839156] := by
  rw [roundsW, zer_r72]
  decide +kernel
theorem zer_r74 : roundsW ks0 zerW st0 74 = [18170168180967726918, 18328841029446720343, 13060178779355539256, 14488324544568235627, 1142590970254049387, 6817047941946052733, 8486314926255750478, 10039812137888914178] := by
  rw [roundsW, zer_r73]
  decide +kernel
theorem zer_r75 : roundsW ks0 zerW st0 75 = [3931110873737423470, 18170168180967726918, 18328841029446720343, 13060178779355539256, 6248892937991631189, 1142590970254049387, 6817047941946052733, 8486314926255750478] := by
  rw [roundsW, zer_r74]
  decide +kernel
theorem zer_r76 : roundsW ks0 zerW st0 76 = [5567541349902180190, 3931110873737423470, 18170168180967726918, 18328841029446720343, 3003314452009162791, 6248892937991631189, 1142590970254049387, 6817047941946052733] := by
  rw [roundsW, zer_r75]
  decide +kernel
theorem zer_r77 : roundsW ks0 zerW st0 77 = [5776266022435338917, 5567541349902180190, 3931110873737423470, 18170168180967726918, 2551491534185647194, 3003314452009162791, 6248892937991631189, 1142590970254049387] := by
  rw [roundsW, zer_r76]
  decide +kernel
theorem zer_r78 : roundsW ks0 zerW st0 78 = [2037463206167937637, 5776266022435338917, 5567541349902180190, 3931110873737423470, 16194014959973738944, 2551491534185647194, 3003314452009162791, 6248892937991631189] := by
  rw [roundsW, zer_r77]
  decide +kernel
theorem zer_r79 : roundsW ks0 zerW st0 79 = [13818184367001344771, 2037463206167937637, 5776266022435338917, 5567541349902180190, 11114007369083713373, 16194014959973738944, 2551491534185647194, 3003314452009162791] := by
  rw [roundsW, zer_r78]
  decide +kernel
theorem zer_r80 : roundsW ks0 zerW st0 80 = [16590354316283047806, 13818184367001344771, 2037463206167937637, 5776266022435338917, 13356607129400399863, 11114007369083713373, 16194014959973738944, 2551491534185647194] := by
  rw [roundsW, zer_r79]
  decide +kernel
theorem zer_fill : fillB (List.replicate 32 0) 32 = zerB := by decide +kernel
theorem zer_sum : shaL (List.replicate 32 0) = digest [5784501819529508998, 8875394189467271742, 6392148771104782992, 17688275192906248598, 750559530768849608, 3837712697366766460, 18168856067073835, 9172008494005186003] := by
  show digest (eatF (eatF st0 (List.replicate 32 0)).1 (fillB (eatF st0 (List.replicate 32 0)).2 32)).1 = _
  have h0 : eatF st0 (List.replicate 32 0) = (st0, List.replicate 32 0) := eatF_stop (by decide)
  rw [h0]
  show digest (eatF st0 (fillB (List.replicate 32 0) 32)).1 = _
  rw [zer_fill, eatF_go (by decide +kernel), show zerB.take 128 = zerB by decide +kernel, show zerB.drop 128 = [] by decide +kernel, eatF_stop (by decide)]
  show digest (addsW st0 (roundsW ks0 (wordsOf zerB 80) st0 80)) = _
  rw [zer_w80, show zerW.take 80 = zerW by decide +kernel, zer_r80]
  congr 1
def zerN : List UInt8 := [80, 70, 173, 193, 219, 168, 56, 134, 123, 43, 187, 253, 208, 195, 66, 62, 88, 181, 121, 112, 181, 38, 122, 144, 245, 121, 96, 146, 74, 135, 241, 86]
theorem zer_sec : secN (shaL (List.replicate 32 0)) = zerN := by rw [zer_sum]; decide +kernel
theorem zer_val : leV zerN = 39325648866980652792715009169219496062012184734522019333892538943312776480336 := by decide +kernel
theorem zm_0 : tmN 1458669386 bN 32 (0, 1, 1) = (16131654361425289794537575663796756549060058761753528127487941791509648236004, 28357951292213356563800637064410155012469389161615519649004059390285143865429, 12683103947390476550668524112422240842701087056636314723096358013515320027215) := by decide +kernel
theorem zm_1 : tmN 2455796213 bN 32 (16131654361425289794537575663796756549060058761753528127487941791509648236004, 28357951292213356563800637064410155012469389161615519649004059390285143865429, 12683103947390476550668524112422240842701087056636314723096358013515320027215) = (36246384768772567865857542040006089325665518853009011992196470566902617455788, 2049314681509613904676325676257950523970123632835933513866134346510144672659, 1741088478108522779106423237653237779735295921652659807937206648616683868369) := by decide +kernel
theorem zm_2 : tmN 2423924405 bN 32 (36246384768772567865857542040006089325665518853009011992196470566902617455788, 2049314681509613904676325676257950523970123632835933513866134346510144672659, 1741088478108522779106423237653237779735295921652659807937206648616683868369) = (25653463729213024135855347293458296989835272320847723431606299223122469611064, 16074056574211910107463560903487461443796145549097271430946357572449671302644, 42021214278079027010777722968592885514995632892340735021380903062649921646468) := by decide +kernel
theorem zm_3 : tmN 1887024472 bN 32 (25653463729213024135855347293458296989835272320847723431606299223122469611064, 16074056574211910107463560903487461443796145549097271430946357572449671302644, 42021214278079027010777722968592885514995632892340735021380903062649921646468) = (20335481639791096220606081666479165376133691008478079039378794605997966061218, 52657524731928448996106976955250181454533551441079484579104832024467385150434, 30538698185588649600036017901878832260662676788157285837528949135456138942268) := by decide +kernel
theorem zm_4 : tmN 1044562896 bN 32 (20335481639791096220606081666479165376133691008478079039378794605997966061218, 52657524731928448996106976955250181454533551441079484579104832024467385150434, 30538698185588649600036017901878832260662676788157285837528949135456138942268) = (39535866183869243309007428675542351819157872423574851943440721405381507482525, 23263654257581958724909250275377710544170035396648943746431129599635737693775, 16358297005845645644555004983171612364687107893927681007902935460674214839270) := by decide +kernel
theorem zm_5 : tmN 4256902011 bN 32 (39535866183869243309007428675542351819157872423574851943440721405381507482525, 23263654257581958724909250275377710544170035396648943746431129599635737693775, 16358297005845645644555004983171612364687107893927681007902935460674214839270) = (34995880826356191654813548730275322939993082881740038141987862644299751083260, 21115653745287810096911462623530499730580481463927551547879025098043293213378, 9906861276338426116713477853748031290926575020590575827549037024417867459298) := by decide +kernel
theorem zm_6 : tmN 2251860187 bN 32 (34995880826356191654813548730275322939993082881740038141987862644299751083260, 21115653745287810096911462623530499730580481463927551547879025098043293213378, 9906861276338426116713477853748031290926575020590575827549037024417867459298) = (12048144128851741291873073801496347447356650179504057637644411258273371439695, 27601893033028899973231734191402406531658694391975048731329330053905128659023, 24785878446212223392486695909614542181532554797485406084672996628491668719770) := by decide +kernel
theorem zm_7 : tmN 3249358416 bN 32 (12048144128851741291873073801496347447356650179504057637644411258273371439695, 27601893033028899973231734191402406531658694391975048731329330053905128659023, 24785878446212223392486695909614542181532554797485406084672996628491668719770) = (57858664897908083886616730048133495680846695993816524414160888176976220141864, 19726323970308381861037264260459780811373847171889358821150822261828039361496, 24471432733940390919967843837209335102995873066817353683885557581620014762187) := by decide +kernel
theorem zm_st0 : PrjT (toT (0, 1, 1)) (nmul 0 pB) := prj_O
theorem zm_st1 : PrjT (toT (16131654361425289794537575663796756549060058761753528127487941791509648236004, 28357951292213356563800637064410155012469389161615519649004059390285143865429, 12683103947390476550668524112422240842701087056636314723096358013515320027215)) (nmul 1458669386 pB) := by
  have h := tmN_st bN_st 1458669386 32 0 _ zm_st0
  rw [zm_0] at h
  exact h
theorem zm_st2 : PrjT (toT (36246384768772567865857542040006089325665518853009011992196470566902617455788, 2049314681509613904676325676257950523970123632835933513866134346510144672659, 1741088478108522779106423237653237779735295921652659807937206648616683868369)) (nmul 6264937311002196469 pB) := by
  have h := tmN_st bN_st 2455796213 32 1458669386 _ zm_st1
  rw [zm_1] at h
  exact h
theorem zm_st3 : PrjT (toT (25653463729213024135855347293458296989835272320847723431606299223122469611064, 16074056574211910107463560903487461443796145549097271430946357572449671302644, 42021214278079027010777722968592885514995632892340735021380903062649921646468)) (nmul 26907700862244614820945602229 pB) := by
  have h := tmN_st bN_st 2423924405 32 6264937311002196469 _ zm_st2
  rw [zm_2] at h
  exact h
theorem zm_st4 : PrjT (toT (20335481639791096220606081666479165376133691008478079039378794605997966061218, 52657524731928448996106976955250181454533551441079484579104832024467385150434, 30538698185588649600036017901878832260662676788157285837528949135456138942268)) (nmul 115567695213891621808078257370466727256 pB) := by
  have h := tmN_st bN_st 1887024472 32 26907700862244614820945602229 _ zm_st3
  rw [zm_3] at h
  exact h
theorem zm_st5 : PrjT (toT (39535866183869243309007428675542351819157872423574851943440721405381507482525, 23263654257581958724909250275377710544170035396648943746431129599635737693775, 16358297005845645644555004983171612364687107893927681007902935460674214839270)) (nmul 496359471417760240554096504014825549821716382672 pB) := by
  have h := tmN_st bN_st 1044562896 32 115567695213891621808078257370466727256 _ zm_st4
  rw [zm_4] at h
  exact h
theorem zm_st6 : PrjT (toT (34995880826356191654813548730275322939993082881740038141987862644299751083260, 21115653745287810096911462623530499730580481463927551547879025098043293213378, 9906861276338426116713477853748031290926575020590575827549037024417867459298)) (nmul 2131847696799126986748937403571608435629490494167917996923 pB) := by
  have h := tmN_st bN_st 4256902011 32 496359471417760240554096504014825549821716382672 _ zm_st5
  rw [zm_5] at h
  exact h
theorem zm_st7 : PrjT (toT (12048144128851741291873073801496347447356650179504057637644411258273371439695, 27601893033028899973231734191402406531658694391975048731329330053905128659023, 24785878446212223392486695909614542181532554797485406084672996628491668719770)) (nmul 9156216137805174289437711511091211825146382845594086529196365490395 pB) := by
  have h := tmN_st bN_st 2251860187 32 2131847696799126986748937403571608435629490494167917996923 _ zm_st6
  rw [zm_6] at h
  exact h
theorem zm_st8 : PrjT (toT (57858664897908083886616730048133495680846695993816524414160888176976220141864, 19726323970308381861037264260459780811373847171889358821150822261828039361496, 24471432733940390919967843837209335102995873066817353683885557581620014762187)) (nmul 39325648866980652792715009169219496062012184734522019333892538943312776480336 pB) := by
  have h := tmN_st bN_st 3249358416 32 9156216137805174289437711511091211825146382845594086529196365490395 _ zm_st7
  rw [zm_7] at h
  exact h
theorem zer_y : (nmul (leV zerN) pB).2 = toF 18930617471878267742194159801949745215346600387277955685031939302387136031291 := by
  rw [zer_val]
  have h := zm_st8
  have hz := h.nz
  have hy := h.y
  generalize nmul 39325648866980652792715009169219496062012184734522019333892538943312776480336 pB = P at *
  refine mul_left_cancel hz (g_rot.trans (hy.symm.trans ?_))
  decide +kernel
theorem enc_low {P : F × F} {k : Nat} (hk : k < 31) : (encB P).getD k 0 = (leB P.2.val).getD k 0 := by
  unfold encB
  split
  · rw [setTop, List.getD_eq_getElem?_getD, List.getElem?_set_ne (by omega), ← List.getD_eq_getElem?_getD]
  · rfl
def zerK : List UInt8 := encB (nmul (leV (secN (shaL (List.replicate 32 0)))) pB)
theorem zerK_eq : zerK = encB (nmul (leV zerN) pB) := by rw [zerK, zer_sec]
theorem zerK_0 : zerK.getD 0 0 = 59 := by rw [zerK_eq, enc_low (by omega), zer_y]; decide +kernel
theorem zerK_1 : zerK.getD 1 0 = 106 := by rw [zerK_eq, enc_low (by omega), zer_y]; decide +kernel
theorem zerK_2 : zerK.getD 2 0 = 39 := by rw [zerK_eq, enc_low (by omega), zer_y]; decide +kernel
theorem zerK_3 : zerK.getD 3 0 = 188 := by rw [zerK_eq, enc_low (by omega), zer_y]; decide +kernel
end Go.Proofs.Ytkpkiefebipbbaa
/- The document's example; whether any signature is right. -/
namespace Go.Proofs.Ytkpkiefebipbbaa
open Go.RowKit
section
variable {G : Nat → Option (List D)}
theorem awake_w {k : List UInt8} (lk : k.length = 32) (h0 : k.getD 0 0 = 59) (h1 : k.getD 1 0 = 106) (h2 : k.getD 2 0 = 39) (h3 : k.getD 3 0 = 188) (h : Spec Try.prog G 9 [.c (.sl 32 ((List.replicate 32 (0 : UInt8)).map bD))] (.many [.g (k.map bD), .c (.v (.int .i64 0))])) :
    Spec Try.prog G 6 [] (.one (.c (.v (.bool true)))) := by
  obtain ⟨z1, z2, z3⟩ := cd_facts (l := k.map bD) (n := 32) (by rw [List.length_map, lk])
  have hz : (List.replicate 32 (C.d (.v (.int .u8 0)))) = ((List.replicate 32 (0 : UInt8)).map bD).map C.d := rfl
  have hz2 : (List.replicate 32 [C.d (.v (.int .u8 0))]).flatten = ((List.replicate 32 (0 : UInt8)).map bD).map C.d := rfl
  have g := fun (i : Nat) (hi : i < 32) => bytesC_get (l := k) (k := i) (x := k.getD i 0) (by rw [List.getD_eq_getElem?_getD, List.getElem?_eq_getElem (by omega), Option.getD_some])
  have g0 : ((k.map bD).map C.d)[0]? = some (C.d (D.v (.int .u8 59))) := by
    rw [g 0 (by omega), h0]
    rfl
  have g1 : ((k.map bD).map C.d)[1]? = some (C.d (D.v (.int .u8 106))) := by
    rw [g 1 (by omega), h1]
    rfl
  have g2 : ((k.map bD).map C.d)[2]? = some (C.d (D.v (.int .u8 39))) := by
    rw [g 2 (by omega), h2]
    rfl
  have g3 : ((k.map bD).map C.d)[3]? = some (C.d (D.v (.int .u8 188))) := by
    rw [g 3 (by omega), h3]
    rfl
  clear g
  have lz : (List.replicate 32 (0 : UInt8)).length = 32 := List.length_replicate
  obtain ⟨y1, y2, y3⟩ := cd_facts (l := (List.replicate 32 (0 : UInt8)).map bD) (n := 32) (by rw [List.length_map, lz])
  generalize List.replicate 32 (0 : UInt8) = Z at *
  refine spec_of Try.func6 rfl rfl rfl (by kernel_rfl) rfl fun K => ?_
  (repeat' (first | with_reducible (first | refine zA fun Kn hK => ?_ | refine zB (by kernel_rfl) ?_ | refine zC (by kernel_rfl) (by kernel_rfl) ?_ | refine zD ?_ | refine zN ?_ | refine zF ?_ | refine zG ?_ | refine zH ?_ | (refine hK _ ?_; clear hK Kn) | (clear hK Kn; refine hK _ ?_; clear hK Kn) | (clear hK Kn; clear hK Kn; refine hK _ ?_; clear hK Kn)) | (refine ⟨none, ?_⟩) | (refine ⟨_, h, ?_⟩) | with_reducible (first | refine zI ?_ | refine zJ ?_ | refine zK ?_ ?_ | refine zL ?_ ?_ | refine And.intro (show logOk _ _ = true by kernel_rfl) ?_) | simp (maxSteps := 10000000) (disch := omega) only [wrap_id, wrap8, max_r, max_l, min_r, min_l] | (with_reducible refine zM (fun hb => ?_) (fun hb => ?_) <;> (try simp only [hb])) | (with_reducible refine And.intro (by first | omega | (simp; done) | (simp; omega)) ?_) | simp (maxSteps := 10000000) (implicitDefEqProofs := false) only [go_sem, Nat.reduceEqDiff, Nat.reduceBEq, ↓reduceIte, Nat.reduceAdd, Nat.reduceMul, Nat.reduceSub, Nat.reduceLeDiff, Nat.reduceLT, reduceCtorEq, Int.reduceLE, Int.reduceLT, Int.reduceToNat, Int.reduceBEq, hz, hz2, lz, y1, y2, y3, z1, z2, z3, g0, g1, g2, g3, lk, Nat.sub_self, List.replicate_zero, List.length_map, List.append_nil] | fail))
theorem awake_m : Spec Try.prog G 6 [] (.one (.c (.v (.bool true)))) := by
  have h := epub_m (G := G) (List.replicate 32 0) List.length_replicate
  rw [bytesD, List.length_replicate] at h
  exact awake_w (k := pubB (List.replicate 32 0)) (encB_len _) zerK_0 zerK_1 zerK_2 zerK_3 h
end
theorem dargs_nil {w : World} {S : Nat → Prop} : DArgs w S [] [] := ⟨rfl, fun i x u hx => by simp at hx⟩
theorem dargs_cons {w : World} {S : Nat → Prop} {x : DV} {u : Value} {ds : List DV} {cs : List Value} (h : DRd w S x u) (k : DArgs w S ds cs) : DArgs w S (x :: ds) (u :: cs) :=
  ⟨by simp [k.1], fun i y v hy hv => by
    cases i with
    | zero =>
      simp at hy hv
      subst hy hv
      exact h
    | succ i => exact k.2 i y v (by simpa using hy) (by simpa using hv)⟩
/-- A law of data, called. -/
theorem law_calls {P : Program} {f : FuncId} {args : List DV} {vs : List Value} {W : World} (h : Spec P (fun _ => none) f args (.one (.c (.v (.bool true))))) (hA : DArgs W (fun b => b < W.heap.size) args vs) :
    Calls P f vs.toArray W fun e W' => e = .returned (.bool true) ∧ Below W.heap.size W W' := by
  refine Calls.mono (h W _ vs (fun b hb => hb) (fun g cs h => by cases h) hA) ?_
  rintro e W1 ⟨hE, u, rfl, hu⟩
  have hu : RD W1 _ (.v (.bool true)) u := hu
  cases hu
  exact ⟨rfl, belowE hE⟩
end Go.Proofs.Ytkpkiefebipbbaa
/- Who signs is verified; the law of signatures. -/
namespace Go.Proofs.Ytkpkiefebipbbaa
open Go.RowKit
theorem sigB_len (seed text : List UInt8) : (sigB seed text).length = 64 := by rw [sigB, List.length_append, firstB, encB_len, lastB, leB_len]
theorem pubB_len (seed : List UInt8) : (pubB seed).length = 32 := encB_len _
theorem sig_take (seed text : List UInt8) : (sigB seed text).take 32 = firstB seed text := List.take_left' (encB_len _)
theorem sig_drop (seed text : List UInt8) : (sigB seed text).drop 32 = lastB seed text := List.drop_left' (encB_len _)
theorem last_val (seed text : List UInt8) : leV (lastB seed text) = (kR [firstB seed text, pubB seed, text] * leV (keyN seed) + kR [keyP seed, text]) % lQ := by
  rw [lastB, leV_leB, maF, kB_val, kB_val]
  exact Nat.lt_trans (Nat.mod_lt _ lQ_pos) lQ_lt
theorem sign_ok (seed text : List UInt8) : verB (pubB seed) text (sigB seed text) = true := by
  have hP := dec_enc (nmul_on pB_on (leV (keyN seed)))
  have hR := dec_enc (nmul_on pB_on (kR [keyP seed, text]))
  have hl := last_val seed text
  unfold verB verP
  rw [sig_take, sig_drop]
  rw [if_pos ⟨pubB_len seed, sigB_len seed text, by rw [hl]; exact Nat.mod_lt _ lQ_pos⟩, hl, nmul_mod]
  have e1 : decOk (pubB seed) = true := hP.1
  have e2 : decP (pubB seed) = pubP seed := hP.2
  have e3 : decOk (firstB seed text) = true := hR.1
  have e4 : decP (firstB seed text) = firstP seed text := hR.2
  rw [e1, e2, e3, e4, Bool.true_and, Bool.true_and]
  apply decide_eq_true
  generalize kR [firstB seed text, pubB seed, text] = k
  rw [nmul_add pB_on, Nat.mul_comm, nmul_mul pB_on, pAdd_comm]
  rfl
section
variable {G : Nat → Option (List D)}
end
end Go.Proofs.Ytkpkiefebipbbaa
/- The order, put to a number below it: plainly. -/
namespace Go.Proofs.Ytkpkiefebipbbaa
open Go.RowKit
def oB : List UInt8 := [237, 211, 245, 92, 26, 99, 18, 88, 214, 156, 247, 162, 222, 249, 222, 20, 0, 0, 0, 0, 0, 0, 0, 0, 0, 0, 0, 0, 0, 0, 0, 16]
theorem oB_val : leV oB = lQ := by decide +kernel
theorem oB_len : oB.length = 32 := rfl
theorem leV_snoc : ∀ (l : List UInt8) (b : UInt8), leV (l ++ [b]) = leV l + 256 ^ l.length * b.toNat
  | [], b => by simp [leV]
  | x :: l, b => by
    rw [List.cons_append, leV, leV_snoc l b, leV, List.length_cons, Nat.pow_succ, Nat.mul_add, Nat.add_assoc]
    congr 2
    rw [Nat.mul_comm (256 ^ l.length) 256, Nat.mul_assoc]
theorem leV_take1 {l : List UInt8} {k : Nat} {b : UInt8} (h : l[k]? = some b) : leV (l.take (k + 1)) = leV (l.take k) + 256 ^ k * b.toNat := by
  have hk : k < l.length := (List.getElem?_eq_some_iff.1 h).1
  rw [List.take_add_one, h, Option.toList_some, leV_snoc, List.length_take, Nat.min_eq_left (by omega)]
/-- So far the sum stands in X, with a carry. -/
def InT (S : List UInt8) (p : Nat × List UInt8 × Nat) : Prop := p.1 ≤ 32 ∧ p.2.1.length = 32 ∧ p.2.2 ≤ 1 ∧ leV (p.2.1.take p.1) + 256 ^ p.1 * p.2.2 = leV (S.take p.1) + leV (oB.take p.1) ∧ p.2.1.drop p.1 = S.drop p.1
theorem InT.zero {S : List UInt8} (h : S.length = 32) : InT S (0, S, 0) := ⟨Nat.zero_le _, h, Nat.zero_le _, by simp [leV], rfl⟩
theorem InT.step {S X : List UInt8} {k c T : Nat} {x y : UInt8} (h : InT S (k, X, c)) (hk : k < 32) (hx : X[k]? = some x) (hy : oB[k]? = some y) (hT : x.toNat + y.toNat + c = T) : InT S (k + 1, X.set k (UInt8.ofNat (T % 256)), T / 256) := by
  obtain ⟨h1, h2, h3, h4, h5⟩ := h
  dsimp only at h1 h2 h3 h4 h5
  have hs : S[k]? = some x := by
    have e : (X.drop k)[0]? = (S.drop k)[0]? := by rw [h5]
    rw [List.getElem?_drop, List.getElem?_drop, Nat.add_zero, hx] at e
    exact e.symm
  have hxl := x.toNat_lt
  have hyl := y.toNat_lt
  have ht : (X.set k (UInt8.ofNat (T % 256))).take k = X.take k := by rw [List.take_set_of_le (Nat.le_refl _)]
  have hg : (X.set k (UInt8.ofNat (T % 256)))[k]? = some (UInt8.ofNat (T % 256)) := by exact List.getElem?_set_self (show k < X.length by omega)
  refine ⟨hk, (by rw [List.length_set]; exact h2 : (X.set k (UInt8.ofNat (T % 256))).length = 32), (by omega : T / 256 ≤ 1), ?_, ?_⟩
  · show leV ((X.set k (UInt8.ofNat (T % 256))).take (k + 1)) + 256 ^ (k + 1) * (T / 256) = leV (S.take (k + 1)) + leV (oB.take (k + 1))
    rw [leV_take1 hg, leV_take1 hs, leV_take1 hy, ht, UInt8.toNat_ofNat_of_lt' (by simp only [UInt8.size]; omega), Nat.pow_succ]
    generalize 256 ^ k = P at *
    have e1 : P * 256 * (T / 256) + P * (T % 256) = P * T := by
      rw [Nat.mul_assoc, ← Nat.mul_add]
      congr 1
      omega
    have e2 : P * T = P * x.toNat + P * y.toNat + P * c := by rw [← hT, Nat.mul_add, Nat.mul_add]
    omega
  · show (X.set k (UInt8.ofNat (T % 256))).drop (k + 1) = S.drop (k + 1)
    rw [List.drop_set_of_lt (by omega), ← List.drop_drop, h5, List.drop_drop]
theorem InT.done {S X : List UInt8} {c : Nat} (h : InT S (32, X, c)) (hS : S.length = 32) (hl : leV S < lQ) : leV X = leV S + lQ := by
  obtain ⟨h1, h2, h3, h4, h5⟩ := h
  dsimp only at h1 h2 h3 h4 h5
  rw [List.take_of_length_le (by omega), List.take_of_length_le (by omega), List.take_of_length_le (by rw [oB_len]; omega), oB_val] at h4
  have hx := leV_lt X
  have hb : lQ + lQ < 256 ^ 32 := by decide +kernel
  rw [h2] at hx
  cases c with
  | zero => simpa using h4
  | succ c =>
    exfalso
    have : 256 ^ 32 * 1 ≤ 256 ^ 32 * (c + 1) := Nat.mul_le_mul_left _ (by omega)
    omega
theorem ver_more {pub text F X : List UInt8} (lF : F.length = 32) (h : lQ ≤ leV X) : verB pub text (F ++ X) = false := by
  unfold verB
  rw [if_neg]
  rintro ⟨_, _, h3⟩
  rw [List.drop_left' lF] at h3
  omega
theorem ver_len {pub text s : List UInt8} (h : s.length ≠ 64) : verB pub text s = false := by
  unfold verB
  rw [if_neg]
  exact fun h2 => h h2.2.1
end Go.Proofs.Ytkpkiefebipbbaa
/- The law of strict signatures: the walk. -/
namespace Go.Proofs.Ytkpkiefebipbbaa
open Go.RowKit
@[go_sem] theorem flat_bD {l : List UInt8} : (l.map bD).all D.flat = true := by
  rw [List.all_eq_true]
  intro x hx
  obtain ⟨y, hy, rfl⟩ := List.mem_map.1 hx
  rfl
@[go_sem ↓ high] theorem aop_oB {G : Nat → Option (List D)} {sl : Nat → SV} {d : Option Nat} {ty : TypeId} {pos : String} {af : Array Edge} {gd : Option (Nat × Bool)} :
    aop Try.prog G (evl G sl) ⟨d, .buildSlice 22 32 ⟨[(0, Operand.const (Value.int IntKind.u8 237)), (1, Operand.const (Value.int IntKind.u8 211)), (2, Operand.const (Value.int IntKind.u8 245)), (3, Operand.const (Value.int IntKind.u8 92)), (4, Operand.const (Value.int IntKind.u8 26)), (5, Operand.const (Value.int IntKind.u8 99)), (6, Operand.const (Value.int IntKind.u8 18)), (7, Operand.const (Value.int IntKind.u8 88)), (8, Operand.const (Value.int IntKind.u8 214)), (9, Operand.const (Value.int IntKind.u8 156)), (10, Operand.const (Value.int IntKind.u8 247)), (11, Operand.const (Value.int IntKind.u8 162)), (12, Operand.const (Value.int IntKind.u8 222)), (13, Operand.const (Value.int IntKind.u8 249)), (14, Operand.const (Value.int IntKind.u8 222)), (15, Operand.const (Value.int IntKind.u8 20)), (16, Operand.const (Value.int IntKind.u8 0)), (17, Operand.const (Value.int IntKind.u8 0)), (18, Operand.const (Value.int IntKind.u8 0)), (19, Operand.const (Value.int IntKind.u8 0)), (20, Operand.const (Value.int IntKind.u8 0)), (21, Operand.const (Value.int IntKind.u8 0)), (22, Operand.const (Value.int IntKind.u8 0)), (23, Operand.const (Value.int IntKind.u8 0)), (24, Operand.const (Value.int IntKind.u8 0)), (25, Operand.const (Value.int IntKind.u8 0)), (26, Operand.const (Value.int IntKind.u8 0)), (27, Operand.const (Value.int IntKind.u8 0)), (28, Operand.const (Value.int IntKind.u8 0)), (29, Operand.const (Value.int IntKind.u8 0)), (30, Operand.const (Value.int IntKind.u8 0)), (31, Operand.const (Value.int IntKind.u8 16))]⟩, ty, pos, af, gd⟩ = .need (true = true) (.need (tyok Try.prog 5 = true ∧ 32 * szOf Try.prog 5 ≤ 16777216) (newQ d 5 ((oB.map bD).map C.d) (fun d => .row d (szOf Try.prog 5) 0 32 (.ex 32)))) := by
  rw [aop_buildSlice]
  kernel_rfl
theorem tmod_256 {T : Nat} : (T : Int).tmod 256 = ((T % 256 : Nat) : Int) := rfl
theorem tdiv_256 {T : Nat} : (T : Int).tdiv 256 = ((T / 256 : Nat) : Int) := rfl
section
variable {G : Nat → Option (List D)}
theorem strict_w {seed text p F S : List UInt8} (d2 : decide ((text.length : Int) > 500) = false) (ls : seed.length = 32) (lp : p.length = 32) (lF : F.length = 32) (lS : S.length = 32) (hS : leV S < lQ)
    (hw : Spec Try.prog G 6 [] (.one (.c (.v (.bool true)))))
    (h1 : Spec Try.prog G 9 [.c (.sl 32 (seed.map bD))] (.many [.g (p.map bD), .c (.v (.int .i64 0))])) (h2 : Spec Try.prog G 10 [.c (.sl 32 (seed.map bD)), .c (bytesD text)] (.many [.g ((F ++ S).map bD), .c (.v (.int .i64 0))]))
    (h3 : Spec Try.prog G 7 [.c (.sl 32 (p.map bD)), .c (bytesD text), .c (.sl 64 ((F ++ S).map bD))] (.one (.c (.v (.bool true)))))
    (h4 : ∀ X : List UInt8, X.length = 32 → lQ ≤ leV X → Spec Try.prog G 7 [.c (.sl 32 (p.map bD)), .c (bytesD text), .c (.sl 64 ((F ++ X).map bD))] (.one (.c (.v (.bool false)))))
    (h5 : Spec Try.prog G 7 [.c (.sl 32 (p.map bD)), .c (bytesD text), .c (.sl 63 (((F ++ S).take 63).map bD))] (.one (.c (.v (.bool false)))))
    (h6 : Spec Try.prog G 7 [.c (.sl 32 (p.map bD)), .c (bytesD text), .c (.sl 65 ((F ++ S ++ [0]).map bD))] (.one (.c (.v (.bool false))))) :
    Spec Try.prog G 5 [.g (seed.map bD), .c (bytesD text)] (.one (.c (.v (.bool true)))) := by
  have lss : (F ++ S).length = 64 := by rw [List.length_append, lF, lS]
  have lsf : ∀ X : List UInt8, X.length = 32 → (F ++ X).length = 64 := fun X h => by rw [List.length_append, lF, h]
  obtain ⟨p1, p2, p3⟩ := cd_facts (l := p.map bD) (n := 32) (by rw [List.length_map, lp])
  obtain ⟨q1, q2, q3⟩ := cd_facts (l := seed.map bD) (n := 32) (by rw [List.length_map, ls])
  have hget : ∀ (X : List UInt8) (k : Nat) (x : UInt8), X[k]? = some x → (((F ++ X).map bD).map C.d)[32 + k]? = some (C.d (D.v (.int .u8 (x.toNat : Int)))) := fun X k x h => by
    refine bytesC_get ?_
    rw [List.getElem?_append_right (by omega), lF, Nat.add_sub_cancel_left]
    exact h
  have hput : ∀ (X : List UInt8) (k v : Nat), v < 256 → (((F ++ X).map bD).map C.d).set (32 + k) (C.d (D.v (.int .u8 (v : Int)))) = ((F ++ X.set k (UInt8.ofNat v)).map bD).map C.d := fun X k v hv => by
    rw [bytesC_set hv, List.set_append_right _ _ (by omega), lF, Nat.add_sub_cancel_left]
  have hap : ((F ++ S).map bD).map C.d ++ [C.d (D.v (.int .u8 0))] = (((F ++ S) ++ [0]).map bD).map C.d := by simp only [List.map_append, List.map_cons, List.map_nil]; rfl
  have l65 : ((F ++ S) ++ [0]).length = 65 := by rw [List.length_append, lss]; rfl
  have hcut : (((F ++ S).map bD).map C.d).take 63 = (((F ++ S).take 63).map bD).map C.d := by rw [List.map_take, List.map_take]
  have hcut2 : ((F ++ S).map bD).take 63 = ((F ++ S).take 63).map bD := by rw [List.map_take]
  have l63 : ((F ++ S).take 63).length = 63 := by rw [List.length_take, lss]; rfl
  obtain ⟨s1, s2, s3⟩ := cd_facts (l := (F ++ S).map bD) (n := 64) (by rw [List.length_map, lss])
  unfold bytesD at *
  refine spec_of Try.func5 rfl rfl rfl (by kernel_rfl) rfl fun K => ?_
  (repeat' (first | with_reducible (first | refine zA fun Kn hK => ?_ | refine zB (by kernel_rfl) ?_ | refine zC (by kernel_rfl) (by kernel_rfl) ?_ | refine zD ?_ | refine zN ?_ | refine zF ?_ | refine zG ?_ | refine zH ?_ | (refine hK _ ?_; clear hK Kn) | (clear hK Kn; refine hK _ ?_; clear hK Kn) | (clear hK Kn; clear hK Kn; refine hK _ ?_; clear hK Kn)) | (refine ⟨some [4096], ?_⟩) | (refine ⟨_, h1, ?_⟩) | (refine ⟨_, h2, ?_⟩) | (refine ⟨_, h3, ?_⟩) | with_reducible (first | refine zI ?_ | refine zJ ?_ | refine zK ?_ ?_ | refine zL ?_ ?_ | refine And.intro (show logOk _ _ = true by kernel_rfl) ?_) | simp (maxSteps := 10000000) (disch := omega) only [wrap_id, wrap8, max_r, max_l, min_r, min_l] | (with_reducible refine zM (fun hb => ?_) (fun hb => ?_) <;> (try simp only [hb])) | (with_reducible refine And.intro (by first | omega | (simp; done) | (simp; omega)) ?_) | simp (maxSteps := 10000000) (implicitDefEqProofs := false) only [go_sem, Nat.reduceEqDiff, Nat.reduceBEq, ↓reduceIte, Nat.reduceAdd, Nat.reduceMul, Nat.reduceSub, Nat.reduceLeDiff, Nat.reduceLT, reduceCtorEq, Int.reduceLE, Int.reduceLT, Int.reduceToNat, Int.reduceBEq, d2, oB_len, ls, lp, lss, p1, p2, p3, q1, q2, q3, s1, s2, s3, Bool.not_true, Bool.not_false, Nat.sub_self, List.replicate_zero, List.length_map, List.length_replicate, List.drop_replicate, List.append_nil, List.nil_append] | fail))
  refine sound_loopR (fun x : {q : Nat × List UInt8 × Nat // InT S q} => ⟨[(1, vD (.sl text.length (text.map bD))), (5, vP 5 0), (7, vP 7 0), (9, .a (.c (.row 42 1 0 32 (.ex 32)))), (10, vR 45 1 64), (11, vI x.1.2.2), (12, vI x.1.1)], [(5, some ⟨25, (p.map bD).map C.d, true, false⟩), (7, some ⟨29, ((F ++ S).map bD).map C.d, true, false⟩), (42, some ⟨5, (oB.map bD).map C.d, true, false⟩), (45, some ⟨5, ((F ++ x.1.2.1).map bD).map C.d, false, false⟩)]⟩) (fun x => 32 - x.1.1) ⟨(0, S, 0), InT.zero lS⟩ [] (by (iterate 2 ((try simp (maxSteps := 10000000) (implicitDefEqProofs := false) only [go_sem, Nat.reduceEqDiff, Nat.reduceBEq, ↓reduceIte, Nat.reduceAdd, Nat.reduceMul, Nat.reduceSub, Nat.reduceLeDiff, Nat.reduceLT, reduceCtorEq, Int.reduceLE, Int.reduceLT, Int.reduceToNat, Int.reduceBEq, true_and]); (try simp (maxSteps := 10000000) (disch := omega) only [wrap_id, wrap8, max_r, max_l, min_r, min_l]))); try simp) (fun ⟨⟨k, X, c⟩, hI⟩ => ?_)
  obtain ⟨hk, hX, hc, _, _⟩ := id hI
  dsimp only at hk hX hc
  have lX := lsf X hX
  by_cases hlt : k < 32
  · have hb1 : decide ((k : Int) < 32) = true := decide_eq_true (by omega)
    obtain ⟨x, hx⟩ : ∃ x, X[k]? = some x := ⟨_, List.getElem?_eq_getElem (by omega)⟩
    obtain ⟨y, hy⟩ : ∃ y, oB[k]? = some y := ⟨_, List.getElem?_eq_getElem (by rw [oB_len]; omega)⟩
    have hg := hget X k x hx
    have hgo := bytesC_get hy
    have hxl := x.toNat_lt
    have hyl := y.toNat_lt
    have hst := InT.step hI hlt hx hy rfl
    have hpt := hput X k ((x.toNat + y.toNat + c) % 256) (Nat.mod_lt _ (by omega))
    have hij : ((32 : Int) + (k : Int)).toNat = 32 + k := by omega
    have hT : (x.toNat : Int) + (y.toNat : Int) + (c : Int) = ((x.toNat + y.toNat + c : Nat) : Int) := by omega
    have hTl : x.toNat + y.toNat + c < 1000 := by omega
    have hXs : (X.set k (UInt8.ofNat ((x.toNat + y.toNat + c) % 256))).length = 32 := by rw [List.length_set]; exact hX
    generalize x.toNat + y.toNat + c = T at *
    (repeat' (first | with_reducible (first | refine zA fun Kn hK => ?_ | refine zB (by kernel_rfl) ?_ | refine zC (by kernel_rfl) (by kernel_rfl) ?_ | refine zD ?_ | refine zN ?_ | refine zF ?_ | refine zG ?_ | refine zH ?_ | (refine hK _ ?_; clear hK Kn) | (clear hK Kn; refine hK _ ?_; clear hK Kn) | (clear hK Kn; clear hK Kn; refine hK _ ?_; clear hK Kn)) | fail | with_reducible (first | refine zI ?_ | refine zJ ?_ | refine zK ?_ ?_ | refine zL ?_ ?_ | refine And.intro (show logOk _ _ = true by kernel_rfl) ?_) | simp (maxSteps := 10000000) (disch := omega) only [wrap_id, wrap8, max_r, max_l, min_r, min_l] | (with_reducible refine zM (fun hb => ?_) (fun hb => ?_) <;> (try simp only [hb])) | (with_reducible refine And.intro (by first | omega | (simp; done) | (simp; omega)) ?_) | simp (maxSteps := 10000000) (implicitDefEqProofs := false) only [go_sem, Nat.reduceEqDiff, Nat.reduceBEq, ↓reduceIte, Nat.reduceAdd, Nat.reduceMul, Nat.reduceSub, Nat.reduceLeDiff, Nat.reduceLT, reduceCtorEq, Int.reduceLE, Int.reduceLT, Int.reduceToNat, Int.reduceBEq, hb1, hg, hgo, hpt, hij, hT, tmod_256, tdiv_256, wrap8_nat, Nat.mod_mod, lX, oB_len, List.length_map] | fail))
    refine ⟨[], ⟨(k + 1, X.set k (UInt8.ofNat (T % 256)), T / 256), hst⟩, ?_⟩
    (iterate 2 ((try simp (maxSteps := 10000000) (implicitDefEqProofs := false) only [go_sem, Nat.reduceEqDiff, Nat.reduceBEq, ↓reduceIte, Nat.reduceAdd, Nat.reduceMul, Nat.reduceSub, Nat.reduceLeDiff, Nat.reduceLT, reduceCtorEq, Int.reduceLE, Int.reduceLT, Int.reduceToNat, Int.reduceBEq, true_and]); (try simp (maxSteps := 10000000) (disch := omega) only [wrap_id, wrap8, max_r, max_l, min_r, min_l])))
    try (simp only [SV.a.injEq, AV.c.injEq, C.d.injEq, D.v.injEq, Value.int.injEq, true_and, and_true, DR.one.injEq, DV.c.injEq, OutO.ret.injEq]; first | done | omega | (split <;> omega) | (simp; done) | (simp; omega))
    try omega
  · have hb1 : decide ((k : Int) < 32) = false := decide_eq_false (by omega)
    obtain rfl : k = 32 := by omega
    have hv := InT.done hI lS hS
    have h7 := h4 X hX (by omega)
    (repeat' (first | with_reducible (first | refine zA fun Kn hK => ?_ | refine zB (by kernel_rfl) ?_ | refine zC (by kernel_rfl) (by kernel_rfl) ?_ | refine zD ?_ | refine zN ?_ | refine zF ?_ | refine zG ?_ | refine zH ?_ | (refine hK _ ?_; clear hK Kn) | (clear hK Kn; refine hK _ ?_; clear hK Kn) | (clear hK Kn; clear hK Kn; refine hK _ ?_; clear hK Kn)) | (refine ⟨some [4096], ?_⟩) | (refine ⟨_, h7, ?_⟩) | (refine ⟨_, h5, ?_⟩) | (refine ⟨_, h6, ?_⟩) | (refine ⟨_, hw, ?_⟩) | with_reducible (first | refine zI ?_ | refine zJ ?_ | refine zK ?_ ?_ | refine zL ?_ ?_ | refine And.intro (show logOk _ _ = true by kernel_rfl) ?_) | simp (maxSteps := 10000000) (disch := omega) only [wrap_id, wrap8, max_r, max_l, min_r, min_l] | (with_reducible refine zM (fun hb => ?_) (fun hb => ?_) <;> (try simp only [hb])) | (with_reducible refine And.intro (by first | omega | (simp; done) | (simp; omega)) ?_) | simp (maxSteps := 10000000) (implicitDefEqProofs := false) only [go_sem, Nat.reduceEqDiff, Nat.reduceBEq, ↓reduceIte, Nat.reduceAdd, Nat.reduceMul, Nat.reduceSub, Nat.reduceLeDiff, Nat.reduceLT, reduceCtorEq, Int.reduceLE, Int.reduceLT, Int.reduceToNat, Int.reduceBEq, hb1, hap, l65, hcut, hcut2, l63, lp, lss, lX, p1, p2, p3, s1, s2, s3, Bool.not_true, Bool.not_false, List.length_map, List.append_nil] | fail))
theorem strict_m (seed text : List UInt8) (ls : seed.length = 32) : Spec Try.prog G 5 [.g (seed.map bD), .c (bytesD text)] (.one (.c (.v (.bool true)))) := by
  have hw := awake_m (G := G)
  by_cases hb : text.length ≤ 500
  · have d2 : decide ((text.length : Int) > 500) = false := decide_eq_false (by omega)
    have h1 := epub_m (G := G) seed ls
    have h2 := esign_m (G := G) seed text ls (by omega)
    rw [bytesD, ls] at h1
    rw [show bytesD seed = .sl 32 (seed.map bD) by rw [bytesD, ls]] at h2
    have hv := fun (s : List UInt8) (h : s.length ≤ 1000) => ever_m (G := G) (pubB seed) text s (by rw [pubB_len]; omega) (by omega) (by omega)
    have ep : bytesD (pubB seed) = .sl 32 ((pubB seed).map bD) := by rw [bytesD, pubB_len]
    have lF : (firstB seed text).length = 32 := encB_len _
    have lS : (lastB seed text).length = 32 := leB_len _
    have h3 := hv (sigB seed text) (by rw [sigB_len]; omega)
    rw [sign_ok, ep, show bytesD (sigB seed text) = .sl 64 ((sigB seed text).map bD) by rw [bytesD, sigB_len]] at h3
    refine strict_w (F := firstB seed text) (S := lastB seed text) d2 ls (pubB_len seed) lF lS (by rw [last_val]; exact Nat.mod_lt _ lQ_pos) hw h1 h2 h3 (fun X hX hq => ?_) ?_ ?_
    · have h := hv (firstB seed text ++ X) (by rw [List.length_append, lF, hX]; omega)
      rw [ver_more lF hq, ep, show bytesD (firstB seed text ++ X) = .sl 64 ((firstB seed text ++ X).map bD) by rw [bytesD, List.length_append, lF, hX]] at h
      exact h
    · have hl : ((firstB seed text ++ lastB seed text).take 63).length = 63 := by rw [List.length_take, List.length_append, lF, lS]; rfl
      have h := hv ((firstB seed text ++ lastB seed text).take 63) (by omega)
      rw [ver_len (by omega), ep, show bytesD ((firstB seed text ++ lastB seed text).take 63) = .sl 63 (((firstB seed text ++ lastB seed text).take 63).map bD) by rw [bytesD, hl]] at h
      exact h
    · have hl : (firstB seed text ++ lastB seed text ++ [0]).length = 65 := by rw [List.length_append, List.length_append, lF, lS]; rfl
      have h := hv (firstB seed text ++ lastB seed text ++ [0]) (by omega)
      rw [ver_len (by omega), ep, show bytesD (firstB seed text ++ lastB seed text ++ [0]) = .sl 65 ((firstB seed text ++ lastB seed text ++ [0]).map bD) by rw [bytesD, hl]] at h
      exact h
  · have d2 : decide ((text.length : Int) > 500) = true := decide_eq_true (by omega)
    obtain ⟨q1, q2, q3⟩ := cd_facts (l := seed.map bD) (n := 32) (by rw [List.length_map, ls])
    refine spec_of Try.func5 rfl rfl rfl (by kernel_rfl) rfl fun K => ?_
    (repeat' (first | with_reducible (first | refine zA fun Kn hK => ?_ | refine zB (by kernel_rfl) ?_ | refine zC (by kernel_rfl) (by kernel_rfl) ?_ | refine zD ?_ | refine zN ?_ | refine zF ?_ | refine zG ?_ | refine zH ?_ | (refine hK _ ?_; clear hK Kn) | (clear hK Kn; refine hK _ ?_; clear hK Kn) | (clear hK Kn; clear hK Kn; refine hK _ ?_; clear hK Kn)) | (refine ⟨_, hw, ?_⟩) | with_reducible (first | refine zI ?_ | refine zJ ?_ | refine zK ?_ ?_ | refine zL ?_ ?_ | refine And.intro (show logOk _ _ = true by kernel_rfl) ?_) | simp (maxSteps := 10000000) (disch := omega) only [wrap_id, wrap8, max_r, max_l, min_r, min_l] | (with_reducible refine zM (fun hb => ?_) (fun hb => ?_) <;> (try simp only [hb])) | (with_reducible refine And.intro (by first | omega | (simp; done) | (simp; omega)) ?_) | simp (maxSteps := 10000000) (implicitDefEqProofs := false) only [go_sem, Nat.reduceEqDiff, Nat.reduceBEq, ↓reduceIte, Nat.reduceAdd, Nat.reduceMul, Nat.reduceSub, Nat.reduceLeDiff, Nat.reduceLT, reduceCtorEq, Int.reduceLE, Int.reduceLT, Int.reduceToNat, Int.reduceBEq, d2, q1, q2, q3, ls, List.length_map] | fail))
end
end Go.Proofs.Ytkpkiefebipbbaa
