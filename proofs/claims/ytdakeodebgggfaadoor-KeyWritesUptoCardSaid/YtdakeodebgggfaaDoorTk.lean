/- The program's telling of a value: its digits, its parts and bytes counted; may it be. -/
import Derived.Test.YtdakeodebgggfaaDoorTj
import Derived.Test.YtdakeodebgggfaaDoorShelf
import Derived.Lib.AppendIntMem
namespace Go.Proofs.YtdakeodebgggfaaDoor
open Go.RowKit
set_option linter.unusedVariables false

theorem equal_c (A B : Option Addr) (n c m d : Nat) (xs ys : List UInt8) (S S' : Nat → Prop) (w : World) (hx : Rep.u8.sl w S A n c xs) (hy : Rep.u8.sl w S' B m d ys) :
    Calls Tryd.prog 51 #[.slice A n c, .slice B m d] w fun e w' => e = .returned (.bool (xs == ys)) ∧ w = w' := by
  have k1 := conv_bs Tryd.underlying22 Tryd.underlying5 Tryd.underlying9 hx
  have k2 := conv_bs Tryd.underlying22 Tryd.underlying5 Tryd.underlying9 hy
  go_enter Tryd.func51, Tryd.ntmps51
  go_wp2
  go_ret
  exact ⟨ret_bool (by rw [Bool.eq_iff_iff]), rfl⟩

/-- The library's table of powers reads as it does, whatever the call does from block B on. -/
def Tabs (B : Nat) (w : World) : Prop := Lib.TabBelow Tryd.prog B w "internal/strconv.uint64pow10" .u64 Lib.pow10Tab
theorem Tabs.on {B : Nat} {w w1 : World} (h : Tabs B w) (hb : Below B w w1) : Tabs B w1 := Lib.TabBelow.on h hb
theorem Tabs.up {B B' : Nat} {w : World} (h : Tabs B w) (hb : B ≤ B') : Tabs B' w := fun w' h' => h w' (h'.mono hb)
theorem Tabs.later {B : Nat} {w w1 : World} (h : Tabs B w) (hb : Below w.heap.size w w1) (hs : B ≤ w.heap.size) : Tabs B w1 := h.on (hb.mono hs)
theorem below_of_grown {B g : Nat} {w w1 : World} (h : w.grownBy w1 (some g)) (hg : B ≤ g) (hs : B ≤ w.heap.size) : Below B w w1 :=
  ⟨h.os, h.tape, h.output, h.size, fun k hk => h.block k (by omega) (by rintro e; injection e; omega)⟩

theorem dec_lib (n : Nat) : Lib.decDigits n = dec n := by
  induction n using Nat.strongRecOn with
  | _ n ih =>
    rw [Lib.decDigits, dec]
    split
    · rfl
    · rw [ih _ (by omega)]
theorem itoa_lib (n : Nat) : Lib.itoa (n : Int) = dec n := by
  rw [Lib.itoa, if_neg (by omega), ← dec_lib]
  rfl
set_option maxRecDepth 100000 in
theorem putlen_c (n : Nat) (w : World) (B : Nat) (hT : Tabs B w) (hn : n ≤ 9223372036854775807) : Calls Tryd.prog 65 #[.int .i64 (n : Nat)] w (TextPost w (dec n)) := by
  have hm : max (n : Int) 0 = (n : Int) := by omega
  have HT := Lib.hid hT.here
  have HD := Lib.hid (itoa_lib n)
  go_enter Tryd.func65, Tryd.ntmps65
  go_wp2_with fail
  refine Calls.mono (Tryd.strconv_Itoa n (by omega) (by omega) _ HT.out) ?_
  rintro e w1 ⟨rfl, k, os, rfl⟩
  have HB := Lib.hid (Lib.below_grow w.heap.size w (Nat.le_refl _) k os)
  rw [HD.out]
  go_wp2
  go_ret
  exact ⟨rfl, HB.out⟩

/-- The counter's block. -/
def cnt (n s : Int) : Array Value := #[.int .i64 n, .int .i64 s]
def CntPost (w : World) (g : Nat) (n s : Int) (e : Ending) (w' : World) : Prop := e = .returned (.tuple #[]) ∧ w.grownBy w' (some g) ∧ w'.heap[g]? = some (.cells (cnt n s) 71 (0, 0))
set_option maxHeartbeats 1000000 in
set_option maxRecDepth 100000 in
theorem cbytes_c (b : List UInt8) (A : Option Addr) (m c g : Nat) (n s B : Nat) (w : World) (hg : w.heap[g]? = some (.cells (cnt n s) 71 (0, 0))) (hT : Tabs B w) (hb : b.length = m) (hm : m ≤ 10000000) (hs : s ≤ 1000000000000) :
    Calls Tryd.prog 64 #[.pointer (some ⟨g, 0, none⟩), .slice A m c] w (CntPost w g n ((s + (textB b).length : Nat) : Int)) := by
  have HE : Hid (((s + (textB b).length : Nat) : Int) = (s : Int) + (((dec m).length : Int) + 1 + (m : Int))) := by
    show _ = _
    simp only [textB, List.length_append, List.length_singleton, hb]
    omega
  have hdl : (dec m).length ≤ 10 := dec_len 9 (by simp only [Nat.reduceAdd, Nat.reducePow]; omega)
  have HT1 := Lib.hid (hT.on (Below.refl B w).drew)
  have HD : Hid (Below w.heap.size w w.drew) := (Below.refl _ w).drew
  have hc := boxed hg
  have hc1 : w.cell? ⟨g, 1, none⟩ = some (.int .i64 (s : Int)) := hc 1 _ rfl
  have hf1 := boxed_frozen hg 1
  have hlt := (Array.getElem?_eq_some_iff.1 hg).1
  have W1 : IntKind.i64.wrap (((dec m).length : Int) + 1) = ((dec m).length : Int) + 1 := IntWalk.i64_in _ (by omega)
  have W2 : IntKind.i64.wrap (((dec m).length : Int) + 1 + (m : Int)) = ((dec m).length : Int) + 1 + (m : Int) := IntWalk.i64_in _ (by omega)
  have W3 : IntKind.i64.wrap ((s : Int) + (((dec m).length : Int) + 1 + (m : Int))) = (s : Int) + (((dec m).length : Int) + 1 + (m : Int)) := IntWalk.i64_in _ (by omega)
  clear hc hb
  go_enter Tryd.func64, Tryd.ntmps64
  go_wp2_with fail
  go_region_with (go_at_call 65; refine Calls.mono (putlen_c m _ B HT1.out (by omega)) ?_; rintro e w2 ⟨rfl, hB2⟩; have hg2 := box_below (w := w.drew) hg hB2 hlt; have h21 := boxed hg2 1 _ rfl; have hf2 := boxed_frozen hg2 1)
  all_goals
    refine bodyPost_end (results_none (h := rfl) _ _ _) rfl ?_
    refine ⟨rfl, grownBy_set (grownBy_of_below (HD.out.trans hB2) (some g)) _, ?_⟩
    rw [HE.out]
    exact box_set hg2 _

/-- Does the count let a value by? -/
def okT (t : Tree) (n d : Nat) : Bool := t.clean && decide (n + t.nodes ≤ 512) && decide (t.deep + d ≤ 17)
def RightPost (w : World) (g : Nat) (t : Tree) (n s d : Nat) (e : Ending) (w' : World) : Prop :=
  w.grownBy w' (some g) ∧ ((okT t n d = true ∧ e = .returned (.bool true) ∧ w'.heap[g]? = some (.cells (cnt ((n + t.nodes : Nat) : Int) ((s + t.form.length : Nat) : Int)) 71 (0, 0))) ∨
    (okT t n d = false ∧ e = .returned (.bool false) ∧ ∃ n1 s1, w'.heap[g]? = some (.cells (cnt n1 s1) 71 (0, 0))))
theorem RightPost.no {w : World} {g : Nat} {t : Tree} {n s d : Nat} {w' : World} (h : okT t n d = false) (hg : w.grownBy w' (some g)) {n1 s1 : Int} (hb : w'.heap[g]? = some (.cells (cnt n1 s1) 71 (0, 0))) : RightPost w g t n s d (.returned (.bool false)) w' :=
  ⟨hg, .inr ⟨h, rfl, n1, s1, hb⟩⟩
theorem RightPost.yes {w : World} {g : Nat} {t : Tree} {n s d : Nat} {w' : World} (h : okT t n d = true) (hg : w.grownBy w' (some g)) {n1 s1 : Int} (h1 : n1 = ((n + t.nodes : Nat) : Int)) (h2 : s1 = ((s + t.form.length : Nat) : Int)) (hb : w'.heap[g]? = some (.cells (cnt n1 s1) 71 (0, 0))) : RightPost w g t n s d (.returned (.bool true)) w' := by
  subst h1 h2
  exact ⟨hg, .inl ⟨h, rfl, hb⟩⟩
theorem Tree.nodes_pos (t : Tree) : 1 ≤ t.nodes := by rw [Tree.nodes_eq]; omega
theorem okT_many {t : Tree} {n d : Nat} (h : 512 < n + 1) : okT t n d = false := by
  have := t.nodes_pos
  simp [okT]
  intro _ _
  omega
theorem okT_unfair {t : Tree} {n d : Nat} (h : t.fair = false) : okT t n d = false := by simp [okT, Tree.clean_eq, h]
theorem okT_atom {t : Tree} {n d : Nat} (hl : t.list = false) (hf : t.fair = true) (hk : t.kids = []) (hn : n + 1 ≤ 512) (hd : d ≤ 17) : okT t n d = true := by
  have h1 : t.nodes = 1 := by rw [Tree.nodes_eq, hk]; rfl
  have h2 : t.deep = 0 := by rw [Tree.deep_eq, hl]; rfl
  simp [okT, Tree.clean_eq, hf, hk, h1, h2]
  omega
end Go.Proofs.YtdakeodebgggfaaDoor
