/- Parts of the proof, laid together. -/
import Derived.Test.YtbeghpkkpnbkgaaGreatDoorJ2
import Derived.ArgAppend
import Derived.Deep.RegionWith
import Derived.BigQuiet
import Derived.Deep.Slices
import Derived.ProofKit
import Derived.OpenShut
import Derived.ShutString
import Derived.ChangeOld
import Derived.Test.YtbeghpkkpnbkgaaGreatDoorRows
import Derived.Shelf.Strconv.Itoa0
import Derived.Shelf.Strconv.Itoa1
import Derived.Shelf.LaysM
import Derived.Shelf.Strconv.Itoa2
import Derived.Shelf.Strconv.Itoa3
import Derived.Shelf.Strings.Search1
import Derived.Shelf.Bytes.SlIndexSmall
import Derived.Shelf.Bytes.SlIndexAt
import Derived.Shelf.Bytes.SlSearch0
import Derived.Ground.SlbCloneProg
import Derived.Shelf.Bytes.SlClone
import Derived.Shelf.Bytes.SlSmallAll
import Derived.Shelf.Bytes.SlEqualAll
import Derived.Shelf.Bytes.Small
import Derived.Shelf.Bytes.IndexByte
import Derived.Test.YtbeghpkkpnbkgaaGreatDoorProg
import Derived.Lib.AppendIntMem
import Derived.Test.YtbeghpkkpnbkgaaGreatDoorCards
import Derived.Test.YtbeghpkkpnbkgaaGreatDoorTie
import Derived.WalkKit
import Derived.Deep.DeepHandedRow
import Derived.Lib.LaidTab
import Derived.Stop.LaidErr
import Derived.PinnedBridge
import Derived.Lib.BytesEntry
import Derived.Lib.OthersKept
set_option linter.unusedVariables false
set_option linter.unusedSimpArgs false
set_option maxRecDepth 100000
set_option maxHeartbeats 8000000
/- A machine of values, 19: values of parts held against each other; objects of which less is known. -/
namespace Go.Proofs.YtbeghpkkpnbkgaaGreatDoor
open Go.RowKit
section
variable {G : Nat → Option (List D)} {P : Program} {K : Ctx G} {F : Fr} {Qx : Exit → FSt → Prop} {s : FSt} {m : NM} {a : Act} {w : World}
/-- Of an object no more is known than its first cells. -/
def AObj.trim (o : AObj) (k : Nat) : AObj := { o with cs := o.cs.take k, ex := false }
theorem Rel.trim {r k : Nat} {o : AObj} (h : Rel K F m s a w) (ho : s.ob r = some (some o)) : Rel K F m ⟨s.sl, upd s.ob r (some (some (o.trim k)))⟩ a w := by
  obtain ⟨H, hH⟩ : ∃ H : Hp, upd s.ob r (some (some (o.trim k))) = H := ⟨_, rfl⟩
  rw [hH]
  have hr : H r = some (some (o.trim k)) := by rw [← hH, upd_same]
  have hne : ∀ x, x ≠ r → H x = s.ob x := fun x hx => by rw [← hH, upd_ne hx]
  have hdom : ∀ x, s.ob.dom x → H.dom x := fun x hx => by
    by_cases e : x = r
    · subst e
      simp [Hp.dom, hr]
    · simpa [Hp.dom, hne x e] using hx
  have hown : ∀ x, H.own x → s.ob.own x := fun x ⟨o', h1, h2⟩ => by
    by_cases e : x = r
    · subst e
      rw [hr] at h1
      injection h1 with h1
      injection h1 with h1
      subst h1
      exact ⟨o, ho, h2⟩
    · rw [hne x e] at h1
      exact ⟨o', h1, h2⟩
  have hv : ∀ b, Vis K m s.ob w b → Vis K m H w b := fun b hb => ⟨hb.1, hb.2.1, fun x hx => hb.2.2 x (hown x hx)⟩
  have kp : Keep w w (Vis K m s.ob w) (Vis K m H w) m m s.ob.dom H.dom := ⟨hv, fun _ _ => rfl, hdom, fun _ _ => rfl, fun _ _ => rfl, fun _ _ => rfl⟩
  refine ⟨h.size, h.defers, fun t => kp.rs (h.slot t), ⟨fun x o' hx => ?_, fun x y hx hy => h.heap.dist x y (hown x hx) (hown y hy), fun x hx => h.heap.loc x (hown x hx), fun x o' hx hf hvd => ?_, h.heap.ev, fun g cs hg => (h.heap.glob g cs hg).mono hv (fun _ _ => rfl)⟩, fun x hx => ⟨hdom x (h.names x hx).1, (h.names x hx).2⟩⟩
  · by_cases e : x = r
    · subst e
      have hx : H x = some (some o') := hx
      rw [hr] at hx
      injection hx with hx
      injection hx with hx
      subst hx
      refine ⟨?_⟩
      rcases (h.heap.obj x o ho).row with ⟨h1, h2, h3⟩ | ⟨h1, arr, h2, h3, h4, h5, h6⟩
      · exact .inl ⟨h1, by simp [AObj.trim, h2], rfl⟩
      · refine .inr ⟨h1, arr, h2, h3, (fun e => by cases e), by simp only [AObj.trim, List.length_take]; omega, fun i y hy => ?_⟩
        simp only [AObj.trim, List.getElem?_take] at hy
        split at hy
        · obtain ⟨u, hu, hc⟩ := h6 i y hy
          exact ⟨u, hu, kp.rc hc⟩
        · cases hy
    · have hx : H x = some (some o') := hx
      rw [hne x e] at hx
      refine ⟨?_⟩
      rcases (h.heap.obj x o' hx).row with h1 | ⟨h1, arr, h2, h3, h4, h5, h6⟩
      · exact .inl h1
      · exact .inr ⟨h1, arr, h2, h3, h4, h5, fun i y hy => by
          obtain ⟨u, hu, hc⟩ := h6 i y hy
          exact ⟨u, hu, kp.rc hc⟩⟩
  · by_cases e : x = r
    · subst e
      have hx : H x = some (some o') := hx
      rw [hr] at hx
      injection hx with hx
      injection hx with hx
      subst hx
      exact hv _ (h.heap.fz x o ho hf hvd)
    · have hx : H x = some (some o') := hx
      rw [hne x e] at hx
      exact hv _ (h.heap.fz x o' hx hf hvd)
theorem sound_trim {c : Code} (r k : Nat) {o : AObj} (ho : s.ob r = some (some o)) (h : Sound P K F c Qx ⟨s.sl, upd s.ob r (some (some (o.trim k)))⟩) : Sound P K F c Qx s := fun m a w hr => h m a w (hr.trim ho)
/-- A row that has its whole block may grow. -/
theorem sound_grow {c : Code} (t r sz n k : Nat) {o : AObj} (h1 : s.sl t = .a (.c (.row r sz 0 n (.ex k)))) (h2 : s.ob r = some (some o)) (h3 : o.ex = true) (h4 : o.cs.length = k * sz) (h : Sound P K F c Qx ⟨upd s.sl t (.a (.c (.row r sz 0 n .grow))), s.ob⟩) : Sound P K F c Qx s := fun m a w hr => by
  have hv := hr.slot t
  rw [h1] at hv
  obtain ⟨hdm, A, c', hu, hnc, hcm, hcap⟩ := rs_row hv
  obtain ⟨rfl, hA⟩ := hcap
  obtain ⟨hvd, hA⟩ := hA (.inr rfl)
  obtain ⟨arr, g1, g2, g3, g4, g5⟩ := hr.obj h2 hvd
  refine h m a w (hr.reslot ?_)
  exact ⟨hdm, A, c', hu, hnc, hcm, rfl, .inr ⟨hvd, hA, by rw [← g2, g3 h3, h4]⟩⟩
/-- A loop of a few rounds. -/
def LoopU (P : Program) {G : Nat → Option (List D)} (K : Ctx G) (F : Fr) (c : Code) (Q : Exit → FSt → Prop) : Nat → FSt → Prop
  | 0, _ => False
  | n + 1, s => Sound P K F c (Then (LoopU P K F c Q n) Q) s
theorem zJ {c : Code} {n : Nat} (h : Sound P K F c (Then (LoopU P K F c Qx n) Qx) s) : LoopU P K F c Qx (n + 1) s := h
instance {c : Code} {n : Nat} : Nx (LoopU P K F c Qx (n + 1) s) (Sound P K F c (Then (LoopU P K F c Qx n) Qx) s) := ⟨fun h => h⟩
theorem sound_loopN {c : Code} (n : Nat) (h : LoopU P K F c Qx n s) : Sound P K F (.loop c) Qx s := fun m a w hr => by
  intro b k cs
  have key : ∀ n s m a w, LoopU P K F c Qx n s → Rel K F m s a w → ∃ e a' w', Lift K F Qx e a' w' ∧ Arrives P (lone (b.at a (.code c :: .inLoop c :: k)) cs w) b k cs e a' w' := by
    intro n
    induction n with
    | zero => exact fun _ _ _ _ h => h.elim
    | succ n ih =>
      intro s m a w h hr
      obtain ⟨e, a₁, w₁, ⟨m₁, s₁, hr₁, hq⟩, harr⟩ := h m a w hr b (.inLoop c :: k) cs
      cases e with
      | normal =>
        obtain ⟨e₂, a₂, w₂, hq₂, harr₂⟩ := ih s₁ m₁ a₁ w₁ hq hr₁
        exact ⟨e₂, a₂, w₂, hq₂, .of_steps (Steps.trans harr (.one step_inLoop)) harr₂⟩
      | exit id => exact ⟨_, a₁, w₁, ⟨m₁, s₁, hr₁, hq⟩, .pass (x := .inLoop c) rfl (fun _ _ => .inl (by simp)) harr⟩
      | goto l => exact ⟨_, a₁, w₁, ⟨m₁, s₁, hr₁, hq⟩, .pass (x := .inLoop c) rfl (fun _ _ => .inl (by simp)) harr⟩
      | ret => exact ⟨_, a₁, w₁, ⟨m₁, s₁, hr₁, hq⟩, .pass (x := .inLoop c) rfl (fun _ _ => .inl (by simp)) harr⟩
      | panic ch => exact ⟨_, a₁, w₁, ⟨m₁, s₁, hr₁, hq⟩, .pass (x := .inLoop c) rfl (fun _ _ => .inl (by simp)) harr⟩
      | outgrown => exact ⟨_, a₁, w₁, ⟨m₁, s₁, hr₁, hq⟩, .pass (x := .inLoop c) rfl (fun _ _ => .inl (by simp)) harr⟩
  obtain ⟨e, a', w', hq, harr⟩ := key n s m a w h hr
  exact ⟨e, a', w', hq, .of_steps (.one step_loop) harr⟩
/-! values of parts, held against each other -/
variable {H : Hp} {rs : List Nat} {Kc : List Nat → Out → Prop} {t e : TypeId} {xs ys : List C}
end
/-! functions that are handed objects -/
section
variable {G : Nat → Option (List D)} {P : Program} {s : FSt} {rl : List ResultVar}
def obAt (H : Hp) : List (Nat × Option AObj) → Prop
  | [] => True
  | (r, o) :: l => H r = some o ∧ obAt H l
theorem obAt_ok {H : Hp} : ∀ {l : List (Nat × Option AObj)}, obAt H l → ∀ p ∈ l, H p.1 = some p.2
  | (r, o) :: l, h, p, hp => by
    rcases List.mem_cons.1 hp with rfl | hp
    · exact h.1
    · exact obAt_ok h.2 p hp
/-- The result: an object's address, or a row of it; data. -/
def rawQ (v : SV) (H' : List (Nat × Option AObj)) : List SV → Q := fun vs => .any Bool fun raw => match raw with
  | true => .need (rawOf vs = v ∧ vs.length = 1 ∧ ∀ r ∈ v.names, lkO H' r ≠ none) (.done .bot [])
  | false => cvArgs vs fun ds U => .need (svOf ds = v ∧ offU H' U) (.done .bot [])
theorem zK {v : SV} {H' : List (Nat × Option AObj)} (h : obAt s.ob H') (h2 : (resQ P s.sl rl (rawQ v H')).run s.ob [] (fun _ _ => True)) : RetO P rl (.ret v H') .ret s := ⟨obAt_ok h, h2⟩
theorem zL {v : SV} {H' : List (Nat × Option AObj)} (h : obAt s.ob H') (h2 : (resQ P s.sl rl (rawQ v H')).run s.ob [] (fun _ _ => True)) : RetO P rl (.ret v H') .normal s := ⟨obAt_ok h, h2⟩
theorem raw_f {v : SV} {H' : List (Nat × Option AObj)} {vs : List SV} {H : Hp} {rs : List Nat} (h : (cvArgs vs fun ds U => .need (svOf ds = v ∧ offU H' U) (.done .bot [])).run H rs (fun _ _ => True)) : (rawQ v H' vs).run H rs (fun _ _ => True) := ⟨false, h⟩
theorem specO_go {f : FuncId} {fn : Func} {c : Code} {args : List AV} {H : List (Nat × AObj)} {out : OutO} {n : Nat} (hf : P.funcs[f]? = some fn) (hb : fn.body = some c) (hr : fn.results = ⟨rl⟩) (hn : fn.ntmps = n) (ha : Nat.ble args.length n = true)
    (hd : hpOk out.hp) (hk : H.all (fun p => (lkO out.hp p.1).isSome) = true)
    (h : ∀ (K : Ctx G) (m : NM), Sound P K (FrO n m (H.map (·.1))) c (RetO P rl out) ⟨lkS (initA 0 args), lkO (someO H)⟩) : SpecO P G f args H out :=
  specO_of hf hb hr hn ha (hpOk_ok hd) (fun r hr e => by
    obtain ⟨p, hp, rfl⟩ := List.mem_map.1 hr
    have := List.all_eq_true.1 hk p hp
    rw [e] at this
    cases this) h
theorem int_beq0 {n : Nat} : ((n : Int) == 0) = (n == 0) := by
  rw [Bool.eq_iff_iff]
  simp
@[go_sem] theorem rep_2 {α : Type} {x : α} : List.replicate 2 x = [x, x] := rfl
@[go_sem] theorem rep_3 {α : Type} {x : α} : List.replicate 3 x = [x, x, x] := rfl
@[go_sem] theorem rep_6 {α : Type} {x : α} : List.replicate 6 x = [x, x, x, x, x, x] := rfl
attribute [go_sem] Option.map_some Option.bind_some List.flatten_cons
attribute [go_sem] OutO.hp hpOk offN obAt offU List.map_nil
end
@[go_sem] def bytesD (l : List UInt8) : D := .sl l.length (l.map bD)
end Go.Proofs.YtbeghpkkpnbkgaaGreatDoor
/- S-expressions as trees, and how they lie in memory. -/
namespace Go.Proofs.YtbeghpkkpnbkgaaGreatDoor
open Go.RowKit
/-- A value: a list of others, or bytes, perhaps with a hint. -/
inductive Tree where
  | mk (list hinted : Bool) (hint data : List UInt8) (kids : List Tree)
def Tree.list : Tree → Bool | .mk l _ _ _ _ => l
def Tree.hinted : Tree → Bool | .mk _ h _ _ _ => h
def Tree.hint : Tree → List UInt8 | .mk _ _ x _ _ => x
def Tree.data : Tree → List UInt8 | .mk _ _ _ d _ => d
def Tree.kids : Tree → List Tree | .mk _ _ _ _ k => k
theorem Tree.eta (t : Tree) : t = .mk t.list t.hinted t.hint t.data t.kids := by cases t; rfl
theorem Tree.kid_lt {t x : Tree} (h : x ∈ t.kids) : SizeOf.sizeOf x < SizeOf.sizeOf t := by
  cases t
  have := List.sizeOf_lt_of_mem h
  simp only [Tree.kids] at this
  simp only [Tree.mk.sizeOf_spec]
  omega
theorem Tree.ind {P : Tree → Prop} (h : ∀ t, (∀ x ∈ t.kids, P x) → P t) (t : Tree) : P t :=
  h t fun x hx => Tree.ind h x
termination_by SizeOf.sizeOf t
decreasing_by exact Tree.kid_lt hx
/-- How a value lies in memory: five cells, and what they lead to. -/
def Tree.rd (w : World) (S : Nat → Prop) (cs : List Value) (t : Tree) : Prop :=
  ∃ A1 n1 c1 A2 n2 c2 A3 n3 c3, cs = [.bool t.list, .bool t.hinted, .slice A1 n1 c1, .slice A2 n2 c2, .slice A3 n3 c3] ∧ Rep.u8.sl w S A1 n1 c1 t.hint ∧ Rep.u8.sl w S A2 n2 c2 t.data ∧
    t.kids.length = n3 ∧ n3 ≤ c3 ∧ c3 ≤ 9223372036854775807 ∧ (0 < n3 → ∃ b o, A3 = some ⟨b, o, none⟩ ∧ S b ∧
      ∀ i x, (hx : t.kids[i]? = some x) → ∃ es, Tree.rd w S es x ∧ ∀ j u, es[j]? = some u → w.cell? ⟨b, o + i * 5 + j, none⟩ = some u)
termination_by SizeOf.sizeOf t
decreasing_by exact Tree.kid_lt (List.mem_of_getElem? hx)
theorem Tree.rd_len {w : World} {S : Nat → Prop} {cs : List Value} {t : Tree} (h : Tree.rd w S cs t) : cs.length = 5 := by
  rw [Tree.rd] at h
  obtain ⟨_, _, _, _, _, _, _, _, _, rfl, _⟩ := h
  rfl
theorem Tree.rd_keep {w w' : World} {S : Nat → Prop} (hk : ∀ p : Addr, S p.block → w'.cell? p = w.cell? p) : ∀ (t : Tree) {cs : List Value}, Tree.rd w S cs t → Tree.rd w' S cs t := by
  refine Tree.ind fun t ih cs h => ?_
  rw [Tree.rd] at h ⊢
  obtain ⟨A1, n1, c1, A2, n2, c2, A3, n3, c3, rfl, h1, h2, h3, h4, h5, h6⟩ := h
  refine ⟨A1, n1, c1, A2, n2, c2, A3, n3, c3, rfl, Rep.sl_keep h1 hk, Rep.sl_keep h2 hk, h3, h4, h5, fun hn => ?_⟩
  obtain ⟨b, o, rfl, hb, hr⟩ := h6 hn
  refine ⟨b, o, rfl, hb, fun i x hx => ?_⟩
  obtain ⟨es, he, hc⟩ := hr i x hx
  exact ⟨es, ih x (List.mem_of_getElem? hx) he, fun j u hu => by rw [hk _ hb]; exact hc j u hu⟩
theorem Tree.rd_more {w : World} {S S' : Nat → Prop} (hS : ∀ b, S b → S' b) : ∀ (t : Tree) {cs : List Value}, Tree.rd w S cs t → Tree.rd w S' cs t := by
  refine Tree.ind fun t ih cs h => ?_
  rw [Tree.rd] at h ⊢
  obtain ⟨A1, n1, c1, A2, n2, c2, A3, n3, c3, rfl, h1, h2, h3, h4, h5, h6⟩ := h
  refine ⟨A1, n1, c1, A2, n2, c2, A3, n3, c3, rfl, Rep.sl_more h1 hS, Rep.sl_more h2 hS, h3, h4, h5, fun hn => ?_⟩
  obtain ⟨b, o, rfl, hb, hr⟩ := h6 hn
  refine ⟨b, o, rfl, hS _ hb, fun i x hx => ?_⟩
  obtain ⟨es, he, hc⟩ := hr i x hx
  exact ⟨es, ih x (List.mem_of_getElem? hx) he, hc⟩
def Rep.tree : Rep Tree where
  size := 5
  pos := by omega
  rd := Tree.rd
  len := Tree.rd_len
  keep := fun h hk => Tree.rd_keep hk _ h
  more := fun h hS => Tree.rd_more hS _ h
  one := fun h u hu => by
    rw [Tree.rd] at h
    obtain ⟨_, _, _, _, _, _, _, _, _, rfl, _⟩ := h
    simp only [List.mem_cons, List.not_mem_nil, or_false] at hu
    rcases hu with rfl | rfl | rfl | rfl | rfl <;> rfl
/-- A value's five cells. -/
def Parts (w : World) (S : Nat → Prop) (t : Tree) (A1 : Option Addr) (n1 c1 : Nat) (A2 : Option Addr) (n2 c2 : Nat) (A3 : Option Addr) (n3 c3 : Nat) : Prop :=
  Rep.u8.sl w S A1 n1 c1 t.hint ∧ Rep.u8.sl w S A2 n2 c2 t.data ∧ Rep.tree.sl w S A3 n3 c3 t.kids
theorem Rep.tree_mk {w : World} {S : Nat → Prop} {t : Tree} {A1 A2 A3 : Option Addr} {n1 c1 n2 c2 n3 c3 : Nat} (h : Parts w S t A1 n1 c1 A2 n2 c2 A3 n3 c3) :
    Rep.tree.rd w S [.bool t.list, .bool t.hinted, .slice A1 n1 c1, .slice A2 n2 c2, .slice A3 n3 c3] t := by
  show Tree.rd w S _ t
  rw [Tree.rd]
  exact ⟨A1, n1, c1, A2, n2, c2, A3, n3, c3, rfl, h.1, h.2.1, h.2.2.1, h.2.2.2.1, h.2.2.2.2.1, h.2.2.2.2.2⟩
/-- How much a value holds. -/
def Tree.wt (t : Tree) : Nat := 1 + t.hint.length + t.data.length + (t.kids.attach.map fun x => Tree.wt x.1).sum
termination_by SizeOf.sizeOf t
decreasing_by exact Tree.kid_lt x.2
theorem Tree.wt_eq (t : Tree) : t.wt = 1 + t.hint.length + t.data.length + (t.kids.map Tree.wt).sum := by
  rw [Tree.wt]
  congr 2
  simp
theorem sum_mem {l : List Tree} {x : Tree} (f : Tree → Nat) (h : x ∈ l) : f x ≤ (l.map f).sum := by
  induction l with
  | nil => cases h
  | cons y l ih =>
    simp only [List.map_cons, List.sum_cons]
    rcases List.mem_cons.1 h with rfl | h
    · omega
    · have := ih h; omega
theorem Tree.wt_kid {t x : Tree} (h : x ∈ t.kids) : x.wt < t.wt := by
  rw [Tree.wt_eq t]
  have := sum_mem Tree.wt h
  omega
theorem Tree.wt_kids (t : Tree) : t.kids.length ≤ t.wt := by
  rw [Tree.wt_eq t]
  have : ∀ l : List Tree, l.length ≤ (l.map Tree.wt).sum := by
    intro l
    induction l with
    | nil => simp
    | cons y l ih =>
      have : 1 ≤ y.wt := by rw [Tree.wt_eq]; omega
      simp only [List.map_cons, List.sum_cons, List.length_cons]
      omega
  have := this t.kids
  omega
theorem Tree.wt_hint (t : Tree) : t.hint.length ≤ t.wt := by rw [Tree.wt_eq]; omega
theorem Tree.wt_data (t : Tree) : t.data.length ≤ t.wt := by rw [Tree.wt_eq]; omega
end Go.Proofs.YtbeghpkkpnbkgaaGreatDoor
/- What is told of a tree: its parts, its depth, its form. -/
namespace Go.Proofs.YtbeghpkkpnbkgaaGreatDoor
def Tree.nodes (t : Tree) : Nat := 1 + (t.kids.attach.map fun x => Tree.nodes x.1).sum
termination_by SizeOf.sizeOf t
decreasing_by exact Tree.kid_lt x.2
theorem Tree.nodes_eq (t : Tree) : t.nodes = 1 + (t.kids.map Tree.nodes).sum := by
  rw [Tree.nodes]
  congr 2
  simp
theorem Tree.nodes_wt : ∀ t : Tree, t.nodes ≤ t.wt := Tree.ind fun t ih => by
  rw [Tree.nodes_eq, Tree.wt_eq]
  have : ∀ l : List Tree, (∀ x ∈ l, x.nodes ≤ x.wt) → (l.map Tree.nodes).sum ≤ (l.map Tree.wt).sum := by
    intro l
    induction l with
    | nil => simp
    | cons x l ih =>
      intro h
      have h0 := h x (by simp)
      have := ih fun y hy => h y (by simp [hy])
      simp only [List.map_cons, List.sum_cons]
      omega
  have := this t.kids ih
  omega
/-- Are fields empty that must be? -/
def Tree.fair (t : Tree) : Bool := if t.list then !t.hinted && t.hint.length == 0 && t.data.length == 0 else t.kids.length == 0 && (t.hinted || t.hint.length == 0)
def Tree.clean (t : Tree) : Bool := t.fair && t.kids.attach.all fun x => Tree.clean x.1
termination_by SizeOf.sizeOf t
decreasing_by exact Tree.kid_lt x.2
theorem Tree.clean_eq (t : Tree) : t.clean = (t.fair && t.kids.all Tree.clean) := by
  rw [Tree.clean]
  congr 1
  simp
def most (l : List Nat) : Nat := l.foldl max 0
def Tree.deep (t : Tree) : Nat := if t.list then most (t.kids.attach.map fun x => Tree.deep x.1) + 1 else 0
termination_by SizeOf.sizeOf t
decreasing_by exact Tree.kid_lt x.2
theorem Tree.deep_eq (t : Tree) : t.deep = if t.list then most (t.kids.map Tree.deep) + 1 else 0 := by
  rw [Tree.deep]
  congr 2
  simp
theorem most_snoc (l : List Nat) (k : Nat) : most (l ++ [k]) = max (most l) k := by simp [most]
theorem most_le {l : List Nat} {n : Nat} : most l ≤ n ↔ ∀ k ∈ l, k ≤ n := by
  have : ∀ (l : List Nat) (a : Nat), l.foldl max a ≤ n ↔ a ≤ n ∧ ∀ k ∈ l, k ≤ n := by
    intro l
    induction l with
    | nil => simp
    | cons x l ih =>
      intro a
      rw [List.foldl_cons, ih]
      simp only [List.mem_cons, forall_eq_or_imp, Nat.max_le, and_assoc]
  have := this l 0
  simpa [most] using this
theorem Tree.deep_wt : ∀ t : Tree, t.deep ≤ t.wt := Tree.ind fun t ih => by
  rw [Tree.deep_eq]
  split
  · have : most (t.kids.map Tree.deep) ≤ t.wt - 1 := most_le.2 fun k hk => by
      obtain ⟨x, hx, rfl⟩ := List.mem_map.1 hk
      have h1 := ih x hx
      have h2 := Tree.wt_kid hx
      omega
    have : 1 ≤ t.wt := by rw [Tree.wt_eq]; omega
    omega
  · omega
/-- A number's digits. -/
def dec (n : Nat) : List UInt8 := if n < 10 then [UInt8.ofNat (48 + n)] else dec (n / 10) ++ [UInt8.ofNat (48 + n % 10)]
theorem dec_len {n : Nat} : ∀ k, n < 10 ^ (k + 1) → (dec n).length ≤ k + 1 := by
  intro k
  induction k generalizing n with
  | zero =>
    intro h
    rw [dec, if_pos (by simpa using h)]
    simp
  | succ k ih =>
    intro h
    rw [dec]
    split
    · simp
    · rw [List.length_append, List.length_singleton]
      have := ih (n := n / 10) (by rw [Nat.div_lt_iff_lt_mul (by omega)]; rw [Nat.pow_succ] at h; omega)
      omega
def textB (b : List UInt8) : List UInt8 := dec b.length ++ [58] ++ b
theorem textB_len {b : List UInt8} {n : Nat} (h : b.length ≤ n) (hn : n < 100000000) : (textB b).length ≤ n + 9 := by
  have := dec_len (n := b.length) 7 (by simp only [Nat.reduceAdd, Nat.reducePow]; omega)
  simp only [textB, List.length_append, List.length_singleton]
  omega
def Tree.atomF (t : Tree) : List UInt8 := (if t.hinted then [91] ++ textB t.hint ++ [93] else []) ++ textB t.data
def Tree.form (t : Tree) : List UInt8 := if t.list then [40] ++ (t.kids.attach.map fun x => Tree.form x.1).flatten ++ [41] else t.atomF
termination_by SizeOf.sizeOf t
decreasing_by exact Tree.kid_lt x.2
theorem Tree.form_eq (t : Tree) : t.form = if t.list then [40] ++ (t.kids.map Tree.form).flatten ++ [41] else t.atomF := by
  rw [Tree.form]
  congr 3
  simp
theorem Tree.form_wt : ∀ t : Tree, t.wt ≤ 10000000 → t.form.length ≤ 21 * t.wt := Tree.ind fun t ih => by
  intro hw
  rw [Tree.form_eq]
  split
  · have : ∀ l : List Tree, (∀ x ∈ l, x.form.length ≤ 21 * x.wt) → (l.map Tree.form).flatten.length ≤ 21 * (l.map Tree.wt).sum := by
      intro l
      induction l with
      | nil => simp
      | cons x l ih =>
        intro h
        have h0 := h x (by simp)
        have := ih fun y hy => h y (by simp [hy])
        simp only [List.map_cons, List.sum_cons, List.flatten_cons, List.length_append]
        omega
    have := this t.kids fun x hx => ih x hx (by have := Tree.wt_kid hx; omega)
    rw [Tree.wt_eq]
    simp only [List.length_append, List.length_singleton]
    omega
  · have h1 := textB_len (b := t.hint) (Nat.le_refl _) (by have := t.wt_hint; omega)
    have h2 := textB_len (b := t.data) (Nat.le_refl _) (by have := t.wt_data; omega)
    rw [Tree.wt_eq]
    unfold Tree.atomF
    split <;> simp only [List.length_append, List.length_singleton, List.length_nil] <;> omega
/-- May a value be? -/
def Tree.may (t : Tree) : Bool := t.clean && decide (t.nodes ≤ 512) && decide (t.deep ≤ 16) && decide (t.form.length ≤ 4096)
noncomputable def Tree.same (t u : Tree) : Bool := @decide (t = u) (Classical.propDecidable _)
theorem Tree.ext_iff {t u : Tree} : t = u ↔ t.list = u.list ∧ t.hinted = u.hinted ∧ t.hint = u.hint ∧ t.data = u.data ∧ t.kids = u.kids := by
  cases t
  cases u
  simp [Tree.list, Tree.hinted, Tree.hint, Tree.data, Tree.kids]
end Go.Proofs.YtbeghpkkpnbkgaaGreatDoor
/- Trees as data; what is told of them. -/
namespace Go.Proofs.YtbeghpkkpnbkgaaGreatDoor
open Go.RowKit
def treeC (t : Tree) : List D := [.v (.bool t.list), .v (.bool t.hinted), bytesD t.hint, bytesD t.data, .sl t.kids.length (t.kids.attach.map fun x => treeC x.1).flatten]
termination_by SizeOf.sizeOf t
decreasing_by exact Tree.kid_lt x.2
@[go_sem] def treeK (t : Tree) : List C := [.d (.v (.bool t.list)), .d (.v (.bool t.hinted)), .d (bytesD t.hint), .d (bytesD t.data), .d (.sl t.kids.length (t.kids.flatMap treeC))]
theorem treeC_eq (t : Tree) : treeC t = [.v (.bool t.list), .v (.bool t.hinted), bytesD t.hint, bytesD t.data, .sl t.kids.length (t.kids.flatMap treeC)] := by
  rw [treeC]
  simp [List.flatMap]
@[go_sem] theorem treeC_len (t : Tree) : (treeC t).length = 5 := by rw [treeC_eq]; rfl
theorem treeC_mk (l h : Bool) (x d : List UInt8) (k : List Tree) : treeC (.mk l h x d k) = [.v (.bool l), .v (.bool h), bytesD x, bytesD d, .sl k.length (k.flatMap treeC)] := treeC_eq _
@[go_sem] theorem treeC_take (t : Tree) : ((treeC t).map C.d).take 5 = (treeC t).map C.d := List.take_of_length_le (by rw [List.length_map, treeC_len]; exact Nat.le_refl _)
@[go_sem] theorem treeC_flen (l : List Tree) : (l.flatMap treeC).length = l.length * 5 := flat_len treeC_len l
theorem sum_at {α : Type} {l : List α} {k : Nat} {x : α} (f : α → Nat) (h : l[k]? = some x) : ((l.take (k + 1)).map f).sum = ((l.take k).map f).sum + f x := by
  rw [List.take_add_one, h]
  simp
theorem sum_upto {α : Type} {l : List α} {k : Nat} (f : α → Nat) : ((l.take k).map f).sum ≤ (l.map f).sum := by
  induction l generalizing k with
  | nil => simp
  | cons x l ih =>
    cases k with
    | zero => simp
    | succ k =>
      have := ih (k := k)
      simp only [List.take_succ_cons, List.map_cons, List.sum_cons]
      omega
theorem nodes_m {G : Nat → Option (List D)} : ∀ t : Tree, ∀ cs : List D, treeC t = cs → t.wt ≤ 1000000000 → Spec Tryz.prog G 36 [.g cs] (.one (.c (.v (.int .i64 t.nodes)))) := Tree.ind fun t ih cs hcs hw => by
  subst hcs
  refine spec_of Tryz.func36 rfl rfl rfl (by kernel_rfl) rfl fun K => ?_
  rw [treeC_eq]
  (repeat' (first | with_reducible (first | refine zA fun Kn hK => ?_ | refine zB (by kernel_rfl) ?_ | refine Nx.go ?_ | go_step) | (with_reducible refine zM (fun hb => ?_) (fun hb => ?_) <;> (try simp only [hb])) | simp (maxSteps := 9999999) (implicitDefEqProofs := false) only [go_sem]))
  refine sound_loopR (fun x : {k : Nat // k ≤ t.kids.length} => ⟨[(1, vP 1 0), (3, vI (1 + ((t.kids.take x.1).map Tree.nodes).sum : Nat)), (7, vI t.kids.length), (8, vI x.1)], [(1, some ⟨27, treeK t, true, false⟩)]⟩) (fun x => t.kids.length - x.1) ⟨0, by omega⟩ [] ?_ (fun ⟨k, hk⟩ => ?_)
  · simp (maxSteps := 9999999) (implicitDefEqProofs := false) only [go_sem]
    simp
  by_cases hlt : k < t.kids.length
  · obtain ⟨x, hx⟩ : ∃ x, t.kids[k]? = some x := ⟨_, List.getElem?_eq_getElem hlt⟩
    have hb : decide ((k : Int) < (t.kids.length : Int)) = true := by simpa using hlt
    have h1 := sum_at Tree.nodes hx
    have h2 := sum_upto (l := t.kids) (k := k + 1) Tree.nodes
    have h3 := t.nodes_wt
    have h4 := t.nodes_eq
    have h5 := t.wt_kids
    (repeat' (first | with_reducible (first | refine zA fun Kn hK => ?_ | refine zB (by kernel_rfl) ?_ | refine Nx.go ?_ | go_step) | (refine ⟨_, ih x (List.mem_of_getElem? hx) _ rfl (by have := Tree.wt_kid (List.mem_of_getElem? hx); omega), ?_⟩) | with_reducible (first | refine zI ?_ | refine zJ ?_ | refine zK ?_ ?_ | refine zL ?_ ?_ | refine zR (by kernel_rfl) ?_) | simp (maxSteps := 9999999) (disch := omega) only [wq] | (with_reducible refine zM (fun hb => ?_) (fun hb => ?_) <;> (try simp only [hb])) | (with_reducible refine And.intro (by first | omega | (simp; done) | (simp; omega)) ?_) | simp (maxSteps := 9999999) (implicitDefEqProofs := false) only [go_sem, hb, flat_at treeC_len hx] | fail))
    refine ⟨[], ⟨k + 1, hlt⟩, ?_⟩
    (iterate 2 ((try simp (maxSteps := 9999999) (implicitDefEqProofs := false) only [go_sem, hb]); (try simp (maxSteps := 9999999) (disch := omega) only [wq])))
    (simp only [ijq, true_and, and_true]; first | done | omega | (split <;> omega) | (simp; done) | (simp; omega))
  · have hb : decide ((k : Int) < (t.kids.length : Int)) = false := by simpa using hlt
    obtain rfl : k = t.kids.length := by omega
    (repeat' (first | with_reducible (first | refine zA fun Kn hK => ?_ | refine zB (by kernel_rfl) ?_ | refine Nx.go ?_ | go_step) | fail | with_reducible (first | refine zI ?_ | refine zJ ?_ | refine zK ?_ ?_ | refine zL ?_ ?_ | refine zR (by kernel_rfl) ?_) | simp (maxSteps := 9999999) (disch := omega) only [wq] | (with_reducible refine zM (fun hb => ?_) (fun hb => ?_) <;> (try simp only [hb])) | (with_reducible refine And.intro (by first | omega | (simp; done) | (simp; omega)) ?_) | simp (maxSteps := 9999999) (implicitDefEqProofs := false) only [go_sem, hb, List.take_length] | fail))
    rw [t.nodes_eq]
theorem clean_m {G : Nat → Option (List D)} : ∀ t : Tree, ∀ cs : List D, treeC t = cs → t.wt ≤ 1000000000 → Spec Tryz.prog G 35 [.g cs] (.one (.c (.v (.bool t.clean)))) := Tree.ind fun t ih cs hcs hw => by
  subst hcs
  refine spec_of Tryz.func35 rfl rfl rfl (by kernel_rfl) rfl fun K => ?_
  rw [treeC_eq]
  refine zA fun Kn hK => ?_
  refine zB (by kernel_rfl) ?_
  (iterate 2 ((try simp (maxSteps := 9999999) (implicitDefEqProofs := false) only [go_sem, true_and]); (try simp (maxSteps := 9999999) (disch := omega) only [wq])))
  refine hK _ ?_; clear hK; clear Kn
  refine zA fun Kn hK => ?_
  have hL : t.fair = true → ∀ s, LessL (renK []) ⟨[(1, vP 1 0)], [(1, some ⟨27, treeK t, true, false⟩)]⟩ (Fr0 Tryz.f35.ntmps) s → Kn s := by
    intro hf s hl
    refine hK _ (sound_lessR _ _ hl ?_)
    clear hK hl
    (repeat' (first | with_reducible (first | refine zA fun Kn hK => ?_ | refine zB (by kernel_rfl) ?_ | refine Nx.go ?_ | go_step) | fail | with_reducible (first | refine zI ?_ | refine zJ ?_ | refine zK ?_ ?_ | refine zL ?_ ?_ | refine zR (by kernel_rfl) ?_) | simp (maxSteps := 9999999) (disch := omega) only [wq] | (with_reducible refine zM (fun hb => ?_) (fun hb => ?_) <;> (try simp only [hb])) | (with_reducible refine And.intro (by first | omega | (simp; done) | (simp; omega)) ?_) | simp (maxSteps := 9999999) (implicitDefEqProofs := false) only [go_sem, true_and] | fail))
    refine sound_loopR (fun x : {k : Nat // k ≤ t.kids.length ∧ (t.kids.take k).all Tree.clean = true} => ⟨[(1, vP 1 0), (46, vI t.kids.length), (47, vI x.1)], [(1, some ⟨27, treeK t, true, false⟩)]⟩) (fun x => t.kids.length - x.1) ⟨0, by simp⟩ [] (by simp (maxSteps := 9999999) (implicitDefEqProofs := false) only [go_sem]; simp) (fun ⟨k, hk, hall⟩ => ?_)
    have h5 := t.wt_kids
    by_cases hlt : k < t.kids.length
    · obtain ⟨x, hx⟩ : ∃ x, t.kids[k]? = some x := ⟨_, List.getElem?_eq_getElem hlt⟩
      have hb : decide ((k : Int) < (t.kids.length : Int)) = true := by simpa using hlt
      have hm := List.mem_of_getElem? hx
      (repeat' (first | with_reducible (first | refine zA fun Kn hK => ?_ | refine zB (by kernel_rfl) ?_ | refine Nx.go ?_ | go_step) | (refine ⟨_, ih x hm _ rfl (by have := Tree.wt_kid hm; omega), ?_⟩) | with_reducible (first | refine zI ?_ | refine zJ ?_ | refine zK ?_ ?_ | refine zL ?_ ?_ | refine zR (by kernel_rfl) ?_) | simp (maxSteps := 9999999) (disch := omega) only [wq] | (with_reducible refine zM (fun hb => ?_) (fun hb => ?_) <;> (try simp only [hb])) | (with_reducible refine And.intro (by first | omega | (simp; done) | (simp; omega)) ?_) | simp (maxSteps := 9999999) (implicitDefEqProofs := false) only [go_sem, hb, flat_at treeC_len hx] | fail))
      · refine ⟨[], ⟨k + 1, hlt, ?_⟩, ?_⟩
        · rw [List.take_add_one, hx]
          simp_all
        · (iterate 2 ((try simp (maxSteps := 9999999) (implicitDefEqProofs := false) only [go_sem, true_and]); (try simp (maxSteps := 9999999) (disch := omega) only [wq])))
          (simp only [ijq, true_and, and_true]; first | done | omega | (split <;> omega) | (simp; done) | (simp; omega))
      · rw [t.clean_eq, hf]
        have : t.kids.all Tree.clean = false := List.all_eq_false.2 ⟨x, hm, by simp_all⟩
        rw [this]
        rfl
    · have hb : decide ((k : Int) < (t.kids.length : Int)) = false := by simpa using hlt
      obtain rfl : k = t.kids.length := by omega
      (repeat' (first | with_reducible (first | refine zA fun Kn hK => ?_ | refine zB (by kernel_rfl) ?_ | refine Nx.go ?_ | go_step) | fail | with_reducible (first | refine zI ?_ | refine zJ ?_ | refine zK ?_ ?_ | refine zL ?_ ?_ | refine zR (by kernel_rfl) ?_) | simp (maxSteps := 9999999) (disch := omega) only [wq] | (with_reducible refine zM (fun hb => ?_) (fun hb => ?_) <;> (try simp only [hb])) | (with_reducible refine And.intro (by first | omega | (simp; done) | (simp; omega)) ?_) | simp (maxSteps := 9999999) (implicitDefEqProofs := false) only [go_sem, hb] | fail))
      rw [List.take_length] at hall
      rw [t.clean_eq, hf, hall]
      rfl
  clear hK
  (repeat' (first | with_reducible (first | refine zA fun Kn hK => ?_ | refine zB (by kernel_rfl) ?_ | refine Nx.go ?_ | go_step) | (refine hL (by rw [Tree.fair]; simp only [*]; rfl) _ ?_) | with_reducible (first | refine zI ?_ | refine zJ ?_ | refine zK ?_ ?_ | refine zL ?_ ?_ | refine zR (by kernel_rfl) ?_) | simp (maxSteps := 9999999) (disch := omega) only [wq] | (with_reducible refine zM (fun hb => ?_) (fun hb => ?_) <;> (try simp only [hb])) | (with_reducible refine And.intro (by first | omega | (simp; done) | (simp; omega)) ?_) | simp (maxSteps := 9999999) (implicitDefEqProofs := false) only [go_sem, gt_iff_lt, pos_beq] | fail))
  all_goals (clear ih; first | (simp only [*]; done) | (rw [t.clean_eq, Tree.fair]; simp only [*]; rfl) | (rw [t.clean_eq, Tree.fair]; simp only [*]; simp; done))
end Go.Proofs.YtbeghpkkpnbkgaaGreatDoor
/- Numbers in digits, and texts. -/
namespace Go.Proofs.YtbeghpkkpnbkgaaGreatDoor
open Go.RowKit
def digit (n : Nat) : UInt8 := UInt8.ofNat (48 + n % 10)
theorem digit_D (n : Nat) : bD (digit n) = .v (.int .u8 (48 + ((n % 10 : Nat) : Int))) := by
  unfold bD digit
  rw [UInt8.toNat_ofNat']
  congr 2
  omega
theorem dec_small {n : Nat} (h : n < 10) : dec n = [digit n] := by
  rw [dec, if_pos h, digit, Nat.mod_eq_of_lt h]
theorem dec_big {n : Nat} (h : ¬ n < 10) : dec n = dec (n / 10) ++ [digit n] := by
  rw [dec, if_neg h, digit]
theorem str_app (x y : List UInt8) : (⟨x.toArray⟩ : ByteArray) ++ ⟨y.toArray⟩ = ⟨(x ++ y).toArray⟩ := by
  ext1
  simp [ByteArray.data_append]
theorem str_size (x : List UInt8) : (⟨x.toArray⟩ : ByteArray).size = x.length := by simp [ByteArray.size]
theorem dec_m {G : Nat → Option (List D)} : ∀ n : Nat, n ≤ 1000000000 → Spec Tryz.prog G 75 [.c (.v (.int .i64 n))] (.one (.c (.v (.string ⟨(dec n).toArray⟩)))) := by
  intro n
  induction n using Nat.strongRecOn with
  | _ n ih =>
  intro hn
  refine spec_of Tryz.func75 rfl rfl rfl (by kernel_rfl) rfl fun K => ?_
  by_cases h10 : n < 10
  · have d1 : decide ((n : Int) < 10) = true := decide_eq_true (by omega)
    have d2 : n % 10 = n := Nat.mod_eq_of_lt h10
    (repeat' (first | with_reducible (first | refine zA fun Kn hK => ?_ | refine zB (by kernel_rfl) ?_ | refine Nx.go ?_ | go_step) | (refine ⟨[digit n], ?_⟩) | with_reducible (first | refine zI ?_ | refine zJ ?_ | refine zK ?_ ?_ | refine zL ?_ ?_ | refine zR (by kernel_rfl) ?_) | simp (maxSteps := 9999999) (disch := omega) only [wq] | (with_reducible refine zM (fun hb => ?_) (fun hb => ?_) <;> (try simp only [hb])) | (with_reducible refine And.intro (by first | omega | (simp; done) | (simp; omega)) ?_) | simp (maxSteps := 9999999) (implicitDefEqProofs := false) only [go_sem, d1, digit_D, d2] | fail))
    rw [dec_small h10]
  · have d1 : decide ((n : Int) < 10) = false := decide_eq_false (by omega)
    have d2 : (n : Int).tdiv 10 = ((n / 10 : Nat) : Int) := by rw [Int.tdiv_eq_ediv_of_nonneg (by omega)]; omega
    have d3 : (n : Int).tmod 10 = ((n % 10 : Nat) : Int) := by rw [Int.tmod_eq_emod_of_nonneg (by omega)]; omega
    have hl := dec_len (n := n / 10) 9 (by simp only [Nat.reduceAdd, Nat.reducePow]; omega)
    (repeat' (first | with_reducible (first | refine zA fun Kn hK => ?_ | refine zB (by kernel_rfl) ?_ | refine Nx.go ?_ | go_step) | (refine ⟨_, ih (n / 10) (by omega) (by omega), ?_⟩) | (refine ⟨[digit n], ?_⟩) | with_reducible (first | refine zI ?_ | refine zJ ?_ | refine zK ?_ ?_ | refine zL ?_ ?_ | refine zR (by kernel_rfl) ?_) | simp (maxSteps := 9999999) (disch := omega) only [wq] | (with_reducible refine zM (fun hb => ?_) (fun hb => ?_) <;> (try simp only [hb])) | (with_reducible refine And.intro (by first | omega | (simp; done) | (simp; omega)) ?_) | simp (maxSteps := 9999999) (implicitDefEqProofs := false) only [go_sem, d1, d2, d3, digit_D] | fail))
    rw [dec_big h10, str_app]
end Go.Proofs.YtbeghpkkpnbkgaaGreatDoor
/- Trees: atoms and lists, plainly. -/
namespace Go.Proofs.YtbeghpkkpnbkgaaGreatDoor
def atomT (s : List UInt8) : Tree := .mk false false [] s []
def listT (l : List Tree) : Tree := .mk true false [] [] l
def isB (t : Tree) (s : List UInt8) : Bool := !t.list && !t.hinted && (t.data == s)
def headB (t : Tree) (s : List UInt8) : Bool := t.list && (match t.kids with
  | [] => false
  | x :: _ => isB x s)
theorem fair_atomT {t : Tree} (h : t.fair = true) (hl : t.list = false) (hh : t.hinted = false) : t = atomT t.data := by
  rw [Tree.fair, hl, hh] at h
  simp at h
  rw [Tree.eta t, hl, hh]
  simp [atomT, h, Tree.data]
theorem fair_listT {t : Tree} (h : t.fair = true) (hl : t.list = true) : t = listT t.kids := by
  rw [Tree.fair, hl] at h
  simp at h
  rw [Tree.eta t, hl]
  simp [listT, h, Tree.kids]
theorem isB_iff {t : Tree} {s : List UInt8} (h : t.fair = true) : isB t s = true ↔ t = atomT s := by
  constructor
  · intro hi
    simp [isB] at hi
    obtain ⟨⟨h1, h2⟩, h3⟩ := hi
    rw [fair_atomT h h1 h2, h3]
  · rintro rfl
    simp [isB, atomT, Tree.list, Tree.hinted, Tree.data]
end Go.Proofs.YtbeghpkkpnbkgaaGreatDoor
/- Rows cloned, held against others; atoms and lists. -/
namespace Go.Proofs.YtbeghpkkpnbkgaaGreatDoor
open Go.RowKit
theorem bclone_m {G : Nat → Option (List D)} (l : List UInt8) (hl : l.length ≤ 1000000000000) : Spec Tryz.prog G 62 [.c (bytesD l)] (.one (.c (bytesD l))) := by
  cases l with
  | nil =>
    refine spec_empty (pre := []) (post := []) rfl fun A c => ?_
    refine spec_of Tryz.func62 rfl rfl rfl (by kernel_rfl) rfl fun K => ?_
    cases A <;> (repeat' (first | with_reducible (first | refine zA fun Kn hK => ?_ | refine zB (by kernel_rfl) ?_ | refine Nx.go ?_ | go_step) | fail | with_reducible (first | refine zI ?_ | refine zJ ?_ | refine zK ?_ ?_ | refine zL ?_ ?_ | refine zR (by kernel_rfl) ?_) | simp (maxSteps := 9999999) (disch := omega) only [wq] | (with_reducible refine zM (fun hb => ?_) (fun hb => ?_) <;> (try simp only [hb])) | (with_reducible refine And.intro (by first | omega | (simp; done) | (simp; omega)) ?_) | simp (maxSteps := 9999999) (implicitDefEqProofs := false) only [go_sem, true_and] | fail))
  | cons x l =>
    generalize hn : x :: l = k at *
    have h0 : 0 < k.length := by rw [← hn]; simp
    refine spec_of Tryz.func62 rfl rfl rfl (by kernel_rfl) rfl fun K => ?_
    (repeat' (first | with_reducible (first | refine zA fun Kn hK => ?_ | refine zB (by kernel_rfl) ?_ | refine Nx.go ?_ | go_step) | fail | with_reducible (first | refine zI ?_ | refine zJ ?_ | refine zK ?_ ?_ | refine zL ?_ ?_ | refine zR (by kernel_rfl) ?_) | simp (maxSteps := 9999999) (disch := omega) only [wq] | (with_reducible refine zM (fun hb => ?_) (fun hb => ?_) <;> (try simp only [hb])) | (with_reducible refine And.intro (by first | omega | (simp; done) | (simp; omega)) ?_) | simp (maxSteps := 9999999) (implicitDefEqProofs := false) only [go_sem, List.length_map] | fail))
theorem sclone_m {G : Nat → Option (List D)} (l : List Tree) (hl : l.length ≤ 100000000) : Spec Tryz.prog G 49 [.c (.sl l.length (l.flatMap treeC))] (.one (.c (.sl l.length (l.flatMap treeC)))) := by
  cases l with
  | nil =>
    refine spec_empty (pre := []) (post := []) rfl fun A c => ?_
    refine spec_of Tryz.func49 rfl rfl rfl (by kernel_rfl) rfl fun K => ?_
    cases A <;> (repeat' (first | with_reducible (first | refine zA fun Kn hK => ?_ | refine zB (by kernel_rfl) ?_ | refine Nx.go ?_ | go_step) | fail | with_reducible (first | refine zI ?_ | refine zJ ?_ | refine zK ?_ ?_ | refine zL ?_ ?_ | refine zR (by kernel_rfl) ?_) | simp (maxSteps := 9999999) (disch := omega) only [wq] | (with_reducible refine zM (fun hb => ?_) (fun hb => ?_) <;> (try simp only [hb])) | (with_reducible refine And.intro (by first | omega | (simp; done) | (simp; omega)) ?_) | simp (maxSteps := 9999999) (implicitDefEqProofs := false) only [go_sem, true_and, List.flatMap_nil] | fail))
  | cons x l =>
    generalize hn : x :: l = k at *
    have h0 : 0 < k.length := by rw [← hn]; simp
    refine spec_of Tryz.func49 rfl rfl rfl (by kernel_rfl) rfl fun K => ?_
    (repeat' (first | with_reducible (first | refine zA fun Kn hK => ?_ | refine zB (by kernel_rfl) ?_ | refine Nx.go ?_ | go_step) | fail | with_reducible (first | refine zI ?_ | refine zJ ?_ | refine zK ?_ ?_ | refine zL ?_ ?_ | refine zR (by kernel_rfl) ?_) | simp (maxSteps := 9999999) (disch := omega) only [wq] | (with_reducible refine zM (fun hb => ?_) (fun hb => ?_) <;> (try simp only [hb])) | (with_reducible refine And.intro (by first | omega | (simp; done) | (simp; omega)) ?_) | simp (maxSteps := 9999999) (implicitDefEqProofs := false) only [go_sem, List.length_map] | fail))
theorem equal_m {G : Nat → Option (List D)} (x y : List UInt8) : Spec Tryz.prog G 40 [.c (bytesD x), .c (bytesD y)] (.one (.c (.v (.bool (x == y))))) := by
  refine spec_of Tryz.func40 rfl rfl rfl (by kernel_rfl) rfl fun K => ?_
  (repeat' (first | with_reducible (first | refine zA fun Kn hK => ?_ | refine zB (by kernel_rfl) ?_ | refine Nx.go ?_ | go_step) | fail | with_reducible (first | refine zI ?_ | refine zJ ?_ | refine zK ?_ ?_ | refine zL ?_ ?_ | refine zR (by kernel_rfl) ?_) | simp (maxSteps := 9999999) (disch := omega) only [wq] | (with_reducible refine zM (fun hb => ?_) (fun hb => ?_) <;> (try simp only [hb])) | (with_reducible refine And.intro (by first | omega | (simp; done) | (simp; omega)) ?_) | simp (maxSteps := 9999999) (implicitDefEqProofs := false) only [go_sem, true_and] | fail))
theorem atom_m {G : Nat → Option (List D)} (l : List UInt8) (hl : l.length ≤ 1000000000000) : Spec Tryz.prog G 24 [.c (.v (.string ⟨l.toArray⟩))] (.one (.g (treeC (.mk false false [] l [])))) := by
  refine spec_of Tryz.func24 rfl rfl rfl (by kernel_rfl) rfl fun K => ?_
  rw [treeC_eq]
  (repeat' (first | with_reducible (first | refine zA fun Kn hK => ?_ | refine zB (by kernel_rfl) ?_ | refine Nx.go ?_ | go_step) | fail | with_reducible (first | refine zI ?_ | refine zJ ?_ | refine zK ?_ ?_ | refine zL ?_ ?_ | refine zR (by kernel_rfl) ?_) | simp (maxSteps := 9999999) (disch := omega) only [wq] | (with_reducible refine zM (fun hb => ?_) (fun hb => ?_) <;> (try simp only [hb])) | (with_reducible refine And.intro (by first | omega | (simp; done) | (simp; omega)) ?_) | simp (maxSteps := 9999999) (implicitDefEqProofs := false) only [go_sem, str_size] | fail))
  rfl
theorem atomref_m {G : Nat → Option (List D)} (l : List UInt8) (hl : l.length ≤ 1000000000000) : Spec Tryz.prog G 28 [.c (.v (.string ⟨l.toArray⟩))] (.one (.g (treeC (.mk false false [] l [])))) := by
  refine spec_of Tryz.func28 rfl rfl rfl (by kernel_rfl) rfl fun K => ?_
  rw [treeC_eq]
  (repeat' (first | with_reducible (first | refine zA fun Kn hK => ?_ | refine zB (by kernel_rfl) ?_ | refine Nx.go ?_ | go_step) | fail | with_reducible (first | refine zI ?_ | refine zJ ?_ | refine zK ?_ ?_ | refine zL ?_ ?_ | refine zR (by kernel_rfl) ?_) | simp (maxSteps := 9999999) (disch := omega) only [wq] | (with_reducible refine zM (fun hb => ?_) (fun hb => ?_) <;> (try simp only [hb])) | (with_reducible refine And.intro (by first | omega | (simp; done) | (simp; omega)) ?_) | simp (maxSteps := 9999999) (implicitDefEqProofs := false) only [go_sem, str_size] | fail))
  rfl
theorem list_m {G : Nat → Option (List D)} (l : List Tree) (hl : l.length ≤ 100000000) : Spec Tryz.prog G 23 [.c (.sl l.length (l.flatMap treeC))] (.one (.g (treeC (.mk true false [] [] l)))) := by
  refine spec_of Tryz.func23 rfl rfl rfl (by kernel_rfl) rfl fun K => ?_
  rw [treeC_eq]
  (repeat' (first | with_reducible (first | refine zA fun Kn hK => ?_ | refine zB (by kernel_rfl) ?_ | refine Nx.go ?_ | go_step) | (refine ⟨_, sclone_m l hl, ?_⟩) | with_reducible (first | refine zI ?_ | refine zJ ?_ | refine zK ?_ ?_ | refine zL ?_ ?_ | refine zR (by kernel_rfl) ?_) | simp (maxSteps := 9999999) (disch := omega) only [wq] | (with_reducible refine zM (fun hb => ?_) (fun hb => ?_) <;> (try simp only [hb])) | (with_reducible refine And.intro (by first | omega | (simp; done) | (simp; omega)) ?_) | simp (maxSteps := 9999999) (implicitDefEqProofs := false) only [go_sem, true_and] | fail))
  rfl
theorem isref_m {G : Nat → Option (List D)} (t : Tree) {cs : List D} (hcs : treeC t = cs) (s : List UInt8) : Spec Tryz.prog G 69 [.g cs, .c (.v (.string ⟨s.toArray⟩))] (.one (.c (.v (.bool (isB t s))))) := by
  subst hcs
  refine spec_of Tryz.func69 rfl rfl rfl (by kernel_rfl) rfl fun K => ?_
  rw [treeC_eq]
  (repeat' (first | with_reducible (first | refine zA fun Kn hK => ?_ | refine zB (by kernel_rfl) ?_ | refine Nx.go ?_ | go_step) | fail | with_reducible (first | refine zI ?_ | refine zJ ?_ | refine zK ?_ ?_ | refine zL ?_ ?_ | refine zR (by kernel_rfl) ?_) | simp (maxSteps := 9999999) (disch := omega) only [wq] | (with_reducible refine zM (fun hb => ?_) (fun hb => ?_) <;> (try simp only [hb])) | (with_reducible refine And.intro (by first | omega | (simp; done) | (simp; omega)) ?_) | simp (maxSteps := 9999999) (implicitDefEqProofs := false) only [go_sem, true_and] | fail))
  all_goals (unfold isB; simp only [*]; first | rfl | simp)
theorem headref_m {G : Nat → Option (List D)} (t : Tree) {cs : List D} (hcs : treeC t = cs) (s : List UInt8) : Spec Tryz.prog G 61 [.g cs, .c (.v (.string ⟨s.toArray⟩))] (.one (.c (.v (.bool (headB t s))))) := by
  subst hcs
  refine spec_of Tryz.func61 rfl rfl rfl (by kernel_rfl) rfl fun K => ?_
  rw [treeC_eq]
  cases hk : t.kids with
  | nil =>
    have h0 : decide ((0 : Int) < ((0 : Nat) : Int)) = false := rfl
    (repeat' (first | with_reducible (first | refine zA fun Kn hK => ?_ | refine zB (by kernel_rfl) ?_ | refine Nx.go ?_ | go_step) | fail | with_reducible (first | refine zI ?_ | refine zJ ?_ | refine zK ?_ ?_ | refine zL ?_ ?_ | refine zR (by kernel_rfl) ?_) | simp (maxSteps := 9999999) (disch := omega) only [wq] | (with_reducible refine zM (fun hb => ?_) (fun hb => ?_) <;> (try simp only [hb])) | (with_reducible refine And.intro (by first | omega | (simp; done) | (simp; omega)) ?_) | simp (maxSteps := 9999999) (implicitDefEqProofs := false) only [go_sem, gt_iff_lt, h0] | fail))
    all_goals (unfold headB; simp only [*]; rfl)
  | cons x l =>
    have h0 : decide ((0 : Int) < ((l.length + 1 : Nat) : Int)) = true := by simp
    have h1 : ((x :: l).flatMap treeC).take 5 = treeC x := flat_at treeC_len (k := 0) rfl
    (repeat' (first | with_reducible (first | refine zA fun Kn hK => ?_ | refine zB (by kernel_rfl) ?_ | refine Nx.go ?_ | go_step) | (refine ⟨_, isref_m x (by first | rfl | (rw [treeC_eq]; first | rfl | (simp only [go_sem, *]; done))) s, ?_⟩) | with_reducible (first | refine zI ?_ | refine zJ ?_ | refine zK ?_ ?_ | refine zL ?_ ?_ | refine zR (by kernel_rfl) ?_) | simp (maxSteps := 9999999) (disch := omega) only [wq] | (with_reducible refine zM (fun hb => ?_) (fun hb => ?_) <;> (try simp only [hb])) | (with_reducible refine And.intro (by first | omega | (simp; done) | (simp; omega)) ?_) | simp (maxSteps := 9999999) (implicitDefEqProofs := false) only [go_sem, gt_iff_lt, h0, h1] | fail))
    all_goals (unfold headB; simp only [*]; rfl)
end Go.Proofs.YtbeghpkkpnbkgaaGreatDoor
/- Rows of bytes that the call may write, whatever marks their block bears; append onto them. -/
namespace Go.Proofs.YtbeghpkkpnbkgaaGreatDoor
open Go.RowKit
/-- The cells of bytes. -/
def bl (xs : List UInt8) : List Value := xs.map fun x => Value.int .u8 (x.toNat : Int)
theorem bl_len (xs : List UInt8) : (bl xs).length = xs.length := by simp [bl]
theorem bl_app (xs ys : List UInt8) : bl (xs ++ ys) = bl xs ++ bl ys := by simp [bl]
theorem bl_one {xs : List UInt8} : ∀ u ∈ bl xs, u.oneCell' = true := by
  intro u hu
  obtain ⟨x, _, rfl⟩ := List.mem_map.1 hu
  rfl
/-- Bytes in a row of the call's own: they lie there, and what is behind them may be written. -/
def OwnB (w : World) (base : Nat) (v : Value) (xs : List UInt8) : Prop :=
  (v = .slice none 0 0 ∧ xs = []) ∨ ∃ g cap, v = .slice (some ⟨g, 0, none⟩) xs.length cap ∧ base ≤ g ∧ g < w.heap.size ∧ xs.length ≤ cap ∧ cap ≤ 9223372036854775807 ∧
    (∀ j u, (bl xs)[j]? = some u → w.cell? ⟨g, j, none⟩ = some u) ∧ ∀ j, j < cap → (w.cell? ⟨g, j, none⟩).isSome = true ∧ w.frozen? ⟨g, j, none⟩ = false
section
variable {P : Program} {w w' : World}
theorem OwnB.nil {base : Nat} : OwnB w base (.slice none 0 0) [] := .inl ⟨rfl, rfl⟩
theorem OwnB.lt {base : Nat} {v : Value} {xs : List UInt8} (h : OwnB w base v xs) : ∀ k, v.ownBlock = some k → base ≤ k ∧ k < w.heap.size := by
  rcases h with ⟨rfl, _⟩ | ⟨g, cap, rfl, hb, hg, _⟩
  · simp [Value.ownBlock]
  · intro k hk
    simp [Value.ownBlock] at hk
    subst hk
    exact ⟨hb, hg⟩
theorem OwnB.of_own {e : TypeId} {base : Nat} {S : Nat → Prop} {v : Value} {xs : List UInt8} (h : Rep.u8.own e w base S v xs) : OwnB w base v xs := by
  obtain ⟨cells, ho, hr⟩ := h
  rcases ho.2 with ⟨rfl, hn⟩ | ⟨g, cap, cur, rfl, hb, hg, hc1, hc2, hc3, hc4⟩
  · exact .inl ⟨rfl, List.eq_nil_of_length_eq_zero hn⟩
  · refine .inr ⟨g, cap, rfl, hb, (Array.getElem?_eq_some_iff.1 hg).1, hc1, by simpa [maxLen] using hc2, fun j u hu => ?_, fun j hj => ⟨?_, ?_⟩⟩
    · have hj : j < xs.length := by
        have := (List.getElem?_eq_some_iff.1 hu).1
        rwa [bl_len] at this
      have hx := hr j xs[j] (List.getElem?_eq_getElem hj)
      simp only [Rep.u8, Nat.mul_one] at hx
      have h0 : cells[j]? = some (.int .u8 (xs[j].toNat : Int)) := by
        have := congrArg (fun l => l[0]?) hx
        simpa [List.getElem?_take, List.getElem?_drop] using this
      have hu' : u = .int .u8 (xs[j].toNat : Int) := by
        simp [bl, List.getElem?_map, List.getElem?_eq_getElem hj] at hu
        exact hu.symm
      have := ho.cells (g := g) rfl j _ h0
      rw [Addr.add_lit, Nat.zero_add] at this
      rw [this, hu']
    · have hsz : j < cur.size := by rw [hc3]; simpa [Rep.u8] using hj
      rw [cell_of_row w g j cur e (0, 0) hg, Array.getElem?_eq_getElem hsz]
      rfl
    · exact boxed_frozen hg j
theorem OwnB.keep {base : Nat} {v : Value} {xs : List UInt8} (h : OwnB w base v xs) {row : Option Nat} (hg : w.grownBy w' row) (hne : v.ownBlock = none ∨ v.ownBlock ≠ row) : OwnB w' base v xs := by
  rcases h with ⟨rfl, rfl⟩ | ⟨g, cap, rfl, hb, hgl, h1, h2, h3, h4⟩
  · exact .nil
  · have hrow : some g ≠ row := by
      rcases hne with h | h
      · simp [Value.ownBlock] at h
      · simpa [Value.ownBlock] using h
    have hblk := hg.block g hgl hrow
    refine .inr ⟨g, cap, rfl, hb, Nat.lt_of_lt_of_le hgl hg.size, h1, h2, fun j u hu => ?_, fun j hj => ⟨?_, ?_⟩⟩
    · rw [World.cell?_of_block hblk]
      exact h3 j u hu
    · rw [World.cell?_of_block hblk]
      exact (h4 j hj).1
    · have : w'.frozen? ⟨g, j, none⟩ = w.frozen? ⟨g, j, none⟩ := by simp [World.frozen?, hblk]
      rw [this]
      exact (h4 j hj).2
theorem OwnB.later {base : Nat} {v : Value} {xs : List UInt8} (h : OwnB w base v xs) (hB : Below w.heap.size w w') : OwnB w' base v xs :=
  h.keep (row := none) ⟨hB.os, hB.tape, hB.output, hB.size, fun k hk _ => hB.block k hk⟩ (by cases hv : v.ownBlock <;> simp)
theorem OwnB.alloc {base : Nat} {v : Value} {xs : List UInt8} (h : OwnB w base v xs) (o : Obj) : OwnB (w.alloc o) base v xs := h.later (Below.alloc (Below.refl _ w) (Nat.le_refl _) o)
/-- The bytes of a reading, as cells. -/
theorem sl_cells {S : Nat → Prop} {A : Option Addr} {m c : Nat} {ys : List UInt8} (h : Rep.u8.sl w S A m c ys) (hm : 0 < m) : ∃ ad, A = some ad ∧ ∀ j u, (bl ys)[j]? = some u → w.cell? (ad.add j) = some u := by
  obtain ⟨b, o, rfl, hb, hr⟩ := h.2.2.2 hm
  refine ⟨_, rfl, fun j u hu => ?_⟩
  have hj : j < ys.length := by
    have := (List.getElem?_eq_some_iff.1 hu).1
    rwa [bl_len] at this
  obtain ⟨es, he, hc⟩ := hr j ys[j] (List.getElem?_eq_getElem hj)
  obtain rfl : es = [.int .u8 (ys[j].toNat : Int)] := he
  have := hc 0 _ rfl
  simp only [Rep.u8, Nat.mul_one, Nat.add_zero] at this
  rw [Addr.add_lit, this]
  simp [bl, List.getElem?_map, List.getElem?_eq_getElem hj] at hu
  rw [hu]
/-- append onto a row of bytes that the call owns. -/
theorem run_appB {t e : TypeId} (T : ElemT P t e (.int .u8 0) 1 1) (ty : TypeId) {base : Nat} {v : Value} {xs ys : List UInt8} (h : OwnB w base v xs) {S : Nat → Prop} {A : Option Addr} {m c : Nat} (hs : Rep.u8.sl w S A m c ys)
    (hbytes : xs.length + m ≤ 140737488355328) (hbase : base ≤ w.heap.size) :
    ∃ v' w', (Builtin.append_ #[t, t] ty #[v, .slice A m c]).run P w = .ok v' w' ∧ OwnB w' base v' (xs ++ ys) ∧ w.grownBy w' v.ownBlock := by
  obtain ⟨i, hi, hz, hsz, hb⟩ := info_parts T.info
  have hm := hs.1
  rcases Nat.eq_zero_or_pos m with h0 | h0
  · have : ys = [] := List.eq_nil_of_length_eq_zero (by rw [hm, h0])
    subst this
    subst h0
    refine ⟨v, w, ?_, by simpa using h, World.grownBy.refl _ _⟩
    rcases h with ⟨rfl, _⟩ | ⟨g, cap, rfl, _, _, hnc, _⟩
    · cases A <;> simp [Builtin.append_, run_underlying T.und, sizeOf, typeInfo, hi, Builtin.lenOf, Builtin.firstCells, loadCells, loadCellsFrom]
    · cases A <;> simp [Builtin.append_, run_underlying T.und, sizeOf, typeInfo, hi, Builtin.lenOf, Builtin.firstCells, loadCells, loadCellsFrom, hnc, storeCells]
  · obtain ⟨ad, rfl, hc⟩ := sl_cells hs h0
    have hl : (bl ys).length = m * 1 := by rw [bl_len, hm]; omega
    rcases h with ⟨rfl, rfl⟩ | ⟨g, cap, rfl, hbg, hgl, h1, h2, h3, h4⟩
    · obtain ⟨v', w', e1, e2, e3, _⟩ := run_append_own_at (P := P) w base t ty e i (.int .u8 0) 1 1 T.und hi hz hsz hb T.zsz T.pos (.slice none 0 0) 0 [] (World.ownsRow_nil w base e 1) ad m c (bl ys) hl hc bl_one (by simp only [maxLen]; omega) (by simp at hbytes ⊢; omega) hbase
      refine ⟨v', w', e1, OwnB.of_own (e := e) (S := fun _ => False) ⟨bl ys, by rw [List.nil_append, hm]; simpa [Rep.u8] using e2, fun i x hx => ?_⟩, e3⟩
      show _ = _
      rw [List.nil_append] at hx
      rw [show Rep.u8.size = 1 from rfl, Nat.mul_one, List.take_one, List.head?_drop]
      simp [bl, hx]
    · by_cases hroom : xs.length + m ≤ cap
      · have hr := run_append_room_cells (P := P) w t ty e i T.und hi g 0 xs.length cap ad m c (bl ys) (by rw [hsz]; exact hl) hc bl_one hroom
          (fun j hj => (h4 _ (by rw [hsz]; rw [bl_len] at hj; omega)).1) (fun j hj => (h4 _ (by rw [hsz]; rw [bl_len] at hj; omega)).2)
        rw [hsz, Nat.mul_one, Nat.zero_add] at hr
        have hin : ∀ j, j < (bl ys).length → (w.cell? ⟨g, xs.length + j, none⟩).isSome = true := fun j hj => (h4 _ (by rw [bl_len] at hj; omega)).1
        have hsize : (w.setCells g xs.length (bl ys)).heap.size = w.heap.size := by
          have : ∀ (vs : List Value) (o : Nat) (w : World), (w.setCells g o vs).heap.size = w.heap.size := by
            intro vs
            induction vs with
            | nil => intro o w; rfl
            | cons v vs ih => intro o w; rw [World.setCells, ih]; simp [World.setCell]
          exact this _ _ _
        have hcell : ∀ j u, (bl (xs ++ ys))[j]? = some u → (w.setCells g xs.length (bl ys)).cell? ⟨g, j, none⟩ = some u := by
          intro j u hu
          rw [bl_app, List.getElem?_append] at hu
          split at hu
          · rename_i hj
            rw [World.cell?_setCells_out g _ _ _ _ (fun _ _ => .inl (by show j < xs.length; rwa [bl_len] at hj))]
            exact h3 j u hu
          · rename_i hj
            rw [bl_len] at hj hu
            have hj2 := (List.getElem?_eq_some_iff.1 hu).1
            have := World.cell?_setCells_in g (bl ys) xs.length w hin (j - xs.length) hj2
            rw [show xs.length + (j - xs.length) = j by omega] at this
            rw [this, ← hu, List.getElem?_eq_getElem hj2]
        have hsome : ∀ j, j < cap → ((w.setCells g xs.length (bl ys)).cell? ⟨g, j, none⟩).isSome = true := by
          intro j hj
          by_cases hin2 : xs.length ≤ j ∧ j < xs.length + m
          · have hj2 : j - xs.length < (bl ys).length := by rw [bl_len]; omega
            have := World.cell?_setCells_in g (bl ys) xs.length w hin (j - xs.length) hj2
            rw [show xs.length + (j - xs.length) = j by omega] at this
            rw [this]
            rfl
          · rw [World.cell?_setCells_out g _ _ _ _ (fun _ _ => by show j < xs.length ∨ xs.length + (bl ys).length ≤ j; rw [bl_len]; omega)]
            exact (h4 j hj).1
        refine ⟨_, _, hr, .inr ⟨g, cap, by rw [List.length_append, hm], hbg, by rw [hsize]; exact hgl, by rw [List.length_append, hm]; exact hroom, h2, hcell, fun j hj => ⟨hsome j hj, by rw [World.frozen?_setCells]; exact (h4 j hj).2⟩⟩, ?_⟩
        have hgr : ∀ (vs : List Value) (o : Nat) (w : World), w.grownBy (w.setCells g o vs) (some g) := by
          intro vs
          induction vs with
          | nil => intro o w; exact World.grownBy.refl _ _
          | cons v vs ih =>
            intro o w
            rw [World.setCells]
            exact grownBy_trans (grownBy_set (World.grownBy.refl w (some g)) v) (ih _ _)
        exact hgr _ _ _
      · obtain ⟨v', w', e1, e2, e3⟩ := run_append_arg_grows (P := P) w t ty e i (.int .u8 0) 1 1 T.und hi hz hsz hb T.zsz T.pos ⟨g, 0, none⟩ xs.length cap (bl xs) (by rw [bl_len]; omega)
          (fun j u hu => by rw [Addr.add_lit, Nat.zero_add]; exact h3 j u hu) ad m c (bl ys) hl hc (by omega) (by simp only [maxLen]; omega) (by omega)
        refine ⟨v', w', e1, OwnB.of_own (e := e) (S := fun _ => False) ⟨bl (xs ++ ys), ?_, fun i x hx => ?_⟩, grownBy_any e3 _⟩
        · rw [List.length_append, hm, bl_app]
          exact ownsRow_base e2 fun k hk => Nat.le_trans hbase (e2.lt k hk).1
        · show _ = _
          rw [show Rep.u8.size = 1 from rfl, Nat.mul_one, List.take_one, List.head?_drop]
          rw [show (bl (xs ++ ys))[i]? = some (.int .u8 (x.toNat : Int)) by rw [bl, List.getElem?_map, hx]; rfl]
          rfl
theorem wp_appB {o : Oper} {a : Act} {K : Act → World → Prop} {Q : Exit → Act → World → Prop} {t e : TypeId} (T : ElemT P t e (.int .u8 0) 1 1) (s x : Operand)
    (ho : o.op = .call { callee := .builtin .append, args := #[s, x], argTypes := #[t, t] }) {base : Nat} {v : Value} {xs ys : List UInt8} (hs : a.eval s = v) (hown : OwnB w base v xs) {S : Nat → Prop}
    {A : Option Addr} {m c : Nat} (hx : a.eval x = .slice A m c) (hsl : Rep.u8.sl w S A m c ys) (hbytes : xs.length + m ≤ 140737488355328) (hbase : base ≤ w.heap.size)
    (h : ∀ v' w', OwnB w' base v' (xs ++ ys) → w.grownBy w' v.ownBlock → K (a.put o.dst v') w') : o.wp P a w K Q := by
  obtain ⟨v', w', hrun, h2, h3⟩ := run_appB T o.type hown hsl hbytes hbase
  unfold Oper.wp execOp
  simp only [ho, resolve, invoke, builtin, Sem.run_bind, Sem.run_pure, Result.andThen_ok, List.map_toArray, List.map_cons, List.map_nil, hs, hx, hrun]
  exact h v' w' h2 h3
theorem wpList_appB {ops : Array Oper} {rest : List Oper} {o : Oper} {a : Act} {Q : Exit → Act → World → Prop} (hgd : o.guard = none) {t e : TypeId} (T : ElemT P t e (.int .u8 0) 1 1) (s x : Operand)
    (ho : o.op = .call { callee := .builtin .append, args := #[s, x], argTypes := #[t, t] }) {base : Nat} {v : Value} {xs ys : List UInt8} (hs : a.eval s = v) (hown : OwnB w base v xs) {S : Nat → Prop}
    {A : Option Addr} {m c : Nat} (hx : a.eval x = .slice A m c) (hsl : Rep.u8.sl w S A m c ys) (hbytes : xs.length + m ≤ 140737488355328) (hbase : base ≤ w.heap.size)
    (h : ∀ v' w', OwnB w' base v' (xs ++ ys) → w.grownBy w' v.ownBlock → wpList P ops Q rest (a.put o.dst v') w') : wpList P ops Q (o :: rest) a w :=
  wpList_plain hgd fun _ hK => wp_appB T s x ho hs hown hx hsl hbytes hbase fun v' w' h2 h3 => hK _ _ (h v' w' h2 h3)
/-- '[]byte(s)' gives a row of the call's own. -/
theorem conv_own {src dst e : TypeId} (hs : P.underlying src = some .string) (hd : P.underlying dst = some (.slice e)) (he : P.underlying e = some (.int .u8)) (w : World) (xs : List UInt8) (hx : xs.length ≤ 9223372036854775807) :
    ∃ v w', (convert src dst (.string ⟨xs.toArray⟩)).run P w = .ok v w' ∧ OwnB w' w.heap.size v xs ∧ Below w.heap.size w w' := by
  have hl : ByteArray.size ⟨xs.toArray⟩ = xs.length := by simp [ByteArray.size]
  have hr := Lib.run_convert_string_bytes (P := P) w src dst e ⟨xs.toArray⟩ hs hd he
  rw [hl] at hr
  have hge := grownCap_ge w xs.length 0 e
  have hle := grownCap_le_maxLen w xs.length 0 e (by simpa [maxLen] using hx)
  have hcs : (Lib.bytesCells w e ⟨xs.toArray⟩).size = grownCap w xs.length 0 e := by
    simp only [Lib.bytesCells, Array.size_append, Array.size_map, Array.size_replicate, hl]
    show xs.toArray.size + _ = _
    rw [List.size_toArray]
    omega
  have hnew := Lib.bytesWorld_at_new w e ⟨xs.toArray⟩
  refine ⟨_, _, hr, .inr ⟨w.heap.size, _, rfl, Nat.le_refl _, by rw [Lib.bytesWorld_size]; omega, hge, by simpa [maxLen] using hle, fun j u hu => ?_, fun j hj => ⟨?_, ?_⟩⟩, ?_⟩
  · have hj : j < xs.length := by
      have := (List.getElem?_eq_some_iff.1 hu).1
      rwa [bl_len] at this
    rw [Lib.bytesWorld_cell w e ⟨xs.toArray⟩ j (by rw [hl]; exact hj)]
    simp [bl, List.getElem?_map, List.getElem?_eq_getElem hj] at hu
    rw [← hu]
    simp [List.getD, hj]
  · have hsz : j < (Lib.bytesCells w e ⟨xs.toArray⟩).size := by rw [hcs]; exact hj
    simp [World.cell?, hnew, hsz]
  · simp only [World.frozen?, hnew, Bool.and_eq_false_iff, decide_eq_false_iff_not]
    left
    rw [hcs]
    omega
  · refine ⟨?_, ?_, ?_, by rw [Lib.bytesWorld_size]; omega, fun k hk => Lib.bytesWorld_at_old w e _ k hk⟩
    all_goals
      unfold Lib.bytesWorld World.freeze
      split <;> rfl
end
end Go.Proofs.YtbeghpkkpnbkgaaGreatDoor
/- A row's text, out of its walk; a value's form. -/
namespace Go.Proofs.YtbeghpkkpnbkgaaGreatDoor
open Go.RowKit
theorem TBm : ElemT Tryz.prog 24 5 (.int .u8 0) 1 1 := ⟨Tryz.underlying24, by kernel_rfl, rfl, by decide⟩
theorem below_ev {w w' : World} (h : Ev (fun _ => False) w w') : Below w.heap.size w w' := ⟨h.os, h.tape, h.output, h.size, fun k hk => h.block k hk fun h => h⟩
theorem OwnB.rd {w : World} {base : Nat} {v : Value} {xs : List UInt8} (h : OwnB w base v xs) : RD w (fun b => base ≤ b ∧ b < w.heap.size) (bytesD xs) v := by
  rcases h with ⟨rfl, rfl⟩ | ⟨g, cap, rfl, hb, hg, hle, hcap, hc, _⟩
  · exact .nil none 0 (by omega)
  · refine .sl xs.length cap g 0 _ (fun i => ((bl xs)[i]?).getD undef) hle hcap ⟨hb, hg⟩ (fun i x hx => ?_) fun i x hx => ?_
    all_goals
      rw [List.getElem?_map] at hx
      cases hl : xs[i]? with
      | none => rw [hl] at hx; cases hx
      | some y =>
        rw [hl] at hx
        have hx : some (bD y) = some x := hx
        injection hx with hx
        subst hx
        have e : (bl xs)[i]? = some (.int .u8 (y.toNat : Int)) := by simp [bl, hl]
        first
          | (rw [e, Nat.zero_add]; exact hc i _ e)
          | (rw [e]; exact .v _ rfl)
theorem below_ownM {w0 w w' : World} {base : Nat} {v : Value} {xs : List UInt8} (hB : Below w0.heap.size w0 w) (ho : OwnB w base v xs) (hg : w.grownBy w' v.ownBlock) (hb : w0.heap.size ≤ base) : Below w0.heap.size w0 w' :=
  hB.grown hg hB.size fun k hk => Nat.le_trans hb (ho.lt k hk).1
theorem slKeepM {r : Rep UInt8} {S : Nat → Prop} {w w' : World} {A : Option Addr} {n c : Nat} {x : List UInt8} (h : r.sl w S A n c x) (hB : Below w.heap.size w w') (hS : ∀ b, S b → b < w.heap.size) : r.sl w' S A n c x := Rep.sl_below h hB hS
theorem sl_litM {w : World} {x : UInt8} {k : Int} (hk : k = (x.toNat : Int)) (t : TypeId) : Rep.u8.sl (w.alloc (.cells #[.int .u8 k] t)) (fun _ => True) (some ⟨w.heap.size, 0, none⟩) 1 1 [x] := by
  subst hk
  exact sl_box (r := Rep.u8) (S := fun _ => True) (box_new w _ t) trivial rfl (Nat.le_refl _) (by decide) (rd_one rfl)
theorem text_m {G : Nat → Option (List D)} (b : List UInt8) (hn : b.length ≤ 1000000000) : Spec Tryz.prog G 56 [.c (bytesD b)] (.one (.c (bytesD (textB b)))) := by
  intro w S vs hS hT hA
  obtain ⟨hl, hc⟩ := hA
  match vs, hl with
  | [u], _ =>
    obtain ⟨A, c, rfl, hs⟩ := bytes_sl (hc 0 _ _ rfl rfl) rfl
    have HS := Lib.hid hs
    have HSS := Lib.hid hS
    have HDM := Lib.hid (dec_m (G := G) b.length hn w S [.int .i64 (b.length : Nat)] hS hT ⟨rfl, fun i x v hx hv => by
      cases i with
      | zero =>
        simp at hx hv
        subst hx hv
        exact .v _ rfl
      | succ i => simp at hx⟩)
    have HT : Hid (dec b.length ++ [58] ++ b = textB b) := rfl
    have hdl : (dec b.length).length ≤ 10 := dec_len 9 (by simp only [Nat.reduceAdd, Nat.reducePow]; omega)
    have HD := Lib.hid hdl
    clear hs hdl hS hT hc
    generalize b.length = n at *
    go_enter Tryz.func56, Tryz.ntmps56
    go_wp2_with fail
    refine Calls.mono HDM.out ?_
    rintro e w1 ⟨hE1, u1, rfl, hu1⟩
    have hB1 := below_ev hE1
    obtain rfl : u1 = .string ⟨(dec n).toArray⟩ := by
      have h9 : RD w1 _ (.v (.string ⟨(dec n).toArray⟩)) u1 := hu1
      cases h9
      rfl
    clear hu1 hE1 HDM
    obtain ⟨v2, w2, hcv, ho2, hB2⟩ := conv_own (P := Tryz.prog) Tryz.underlying9 Tryz.underlying24 Tryz.underlying5 w1 (dec n) (by have := HD.out; omega)
    have hB2' : Below w.heap.size w w2 := hB1.trans (hB2.mono hB1.size)
    have hz1 := hB1.size
    have hz2 := hB2.size
    generalize dec n = D at *
    go_wp2_with (at_builtin; refine halt ?_)
    refine go_on (wpList_appB rfl TBm _ _ rfl (by rfl) (ho2.alloc _) (by rfl) (sl_litM (x := 58) rfl _) (by have := HD.out; omega) (by simp only [World.size_alloc]; omega) ?_)
    intro v3 w3 ho3 hg3
    have hB3 := below_ownM (hB2'.alloc hB2'.size _) (ho2.alloc _) hg3 hz1
    have hz3 := hB3.size
    have hs3 := slKeepM HS.out hB3 HSS.out
    have hg3b : w1.heap.size ≤ w3.heap.size := Nat.le_trans (by simp only [World.size_alloc]; omega) hg3.size
    clear hcv hB2 hB1 hg3
    go_wp2_with (at_builtin; refine halt ?_)
    refine go_on (wpList_appB rfl TBm _ _ rfl (by rfl) ho3 (by rfl) hs3 (by have := HD.out; simp only [List.length_append, List.length_singleton]; omega) (by have := hg3b; omega) ?_)
    intro v4 w4 ho4 hg4
    have hB4 := below_ownM hB3 ho3 hg4 hz1
    rw [HT.out] at ho4
    have HO := Lib.hid ho4
    clear ho4 hg4 ho3 hs3
    go_wp2
    go_ret
    exact ⟨⟨hB4.os, hB4.tape, hB4.output, hB4.size, fun k hk _ => hB4.block k hk⟩, v4, rfl, RD.mono (fun b hb => .inr ⟨by omega, hb.2⟩) (fun _ _ => rfl) HO.out.rd⟩
end Go.Proofs.YtbeghpkkpnbkgaaGreatDoor
/- From the form's reading of an argument to a reading by 'Rep'. -/
namespace Go.Proofs.YtbeghpkkpnbkgaaGreatDoor
open Go.RowKit Go.ChangeShapes Go.WideShapes Go.Deep
/-- Whatever of type t is read as data is read by r. -/
def Opens {α : Type} (P : Program) (t : TypeId) (r : Rep α) : Prop :=
  P.cellsOf t = r.size ∧ ∀ (H : Type) (enc : TypeId × Value → H) (w : World) (sp : Nat → Bool) (held : Bool) (fuel : Nat) (cs : List Value) (x : DataW H × List MemPlace), DataW.trod enc P w 0 sp held fuel t cs = some x → ∃ y, r.rd w (fun b => b < w.heap.size) cs y
section
variable {α : Type} {P : Program} {t e : TypeId}
theorem opens_u8 (ht : P.underlying t = some (.int .u8)) (hc : P.cellsOf t = 1) : Opens P t Rep.u8 :=
  ⟨hc, fun H enc w sp held fuel cs x h => by
    obtain ⟨n, rfl, _, hw⟩ := DataW.trod_int ht h
    have hb : 0 ≤ n ∧ n ≤ 255 := bounds_u8 hw
    exact ⟨ub n, rd_u8 (ub_val hb.1 hb.2)⟩⟩
end
end Go.Proofs.YtbeghpkkpnbkgaaGreatDoor
/- From the form's reading of a value to a tree, with what it holds. -/
namespace Go.Proofs.YtbeghpkkpnbkgaaGreatDoor
open Go.RowKit Go.ChangeShapes Go.WideShapes Go.Deep
/-- Whatever of type t is read as data, with so much fuel, is read by r, and holds no more. -/
def OpensN {α : Type} (P : Program) (fuel : Nat) (t : TypeId) (r : Rep α) (wt : α → Nat) : Prop :=
  ∀ (H : Type) (enc : TypeId × Value → H) (w : World) (sp : Nat → Bool) (held : Bool) (cs : List Value) (x : DataW H × List MemPlace), DataW.trod enc P w 0 sp held fuel t cs = some x →
    ∃ y, r.rd w (fun b => b < w.heap.size) cs y ∧ wt y ≤ Rows.uptoBulk x.1
theorem pick_list {α : Type} (Q : Nat → α → Prop) : ∀ n, (∀ i, i < n → ∃ y, Q i y) → ∃ xs : List α, xs.length = n ∧ ∀ i x, xs[i]? = some x → Q i x
  | 0, _ => ⟨[], rfl, fun i x h => by simp at h⟩
  | n + 1, h => by
    obtain ⟨xs, h1, h2⟩ := pick_list Q n fun i hi => h i (by omega)
    obtain ⟨y, hy⟩ := h n (by omega)
    refine ⟨xs ++ [y], by simp [h1], fun i x hx => ?_⟩
    rw [List.getElem?_append] at hx
    split at hx
    · exact h2 i x hx
    · rename_i hi
      have : i - xs.length = 0 := by
        cases hk : i - xs.length with
        | zero => rfl
        | succ k => rw [hk] at hx; simp at hx
      rw [this] at hx
      simp at hx
      subst hx
      obtain rfl : i = n := by omega
      exact hy
theorem sum_bulk {H α : Type} (wt : α → Nat) : ∀ (xs : List α) (ds : List (DataW H)), xs.length = ds.length → (∀ (i : Nat) (x : α) (d : DataW H), xs[i]? = some x → ds[i]? = some d → wt x ≤ Rows.uptoBulk d) → (xs.map wt).sum ≤ Rows.uptoBulkAll ds
  | [], _, _, _ => by simp
  | x :: xs, [], h, _ => by simp at h
  | x :: xs, d :: ds, h, hw => by
    have h0 := hw 0 x d rfl rfl
    have := sum_bulk wt xs ds (by simpa using h) fun i y e hy he => hw (i + 1) y e (by simpa using hy) (by simpa using he)
    simp only [List.map_cons, List.sum_cons, Rows.uptoBulkAll]
    omega
section
variable {α : Type} {P : Program} {t e : TypeId}
theorem opensN_u8 (fuel : Nat) (ht : P.underlying t = some (.int .u8)) (hc : P.cellsOf t = 1) : OpensN P fuel t Rep.u8 (fun _ => 1) := fun H enc w sp held cs x h => by
  obtain ⟨y, hy⟩ := (opens_u8 ht hc).2 H enc w sp held fuel cs x h
  refine ⟨y, hy, ?_⟩
  obtain ⟨n, rfl, rfl, hw⟩ := DataW.trod_int ht h
  simp [Rows.uptoBulk]
theorem opensN_slice {r : Rep α} {wt : α → Nat} (fuel : Nat) (ht : P.underlying t = some (.slice e)) (hce : P.cellsOf e = r.size) (he : ∀ n, n < fuel → OpensN P n e r wt) : OpensN P fuel t r.slice (fun xs => (xs.map wt).sum + 1) := fun H enc w sp held cs x h => by
  rcases DataW.trod_slice ht h with ⟨rfl, rfl⟩ | ⟨a, len, cap, elems, rest, n, rfl, rfl, rfl, _, hl, hm, hlen, hi, _⟩
  · exact ⟨[], ⟨none, 0, 0, rfl, Rep.sl_nil⟩, by simp [Rows.uptoBulk]⟩
  · have hel : ∀ i, i < len → ∃ y, (∃ es : List Value, r.rd w (fun b => b < w.heap.size) es y ∧ ∀ j u, es[j]? = some u → w.cell? (a.add (i * r.size + j)) = some u) ∧ ∀ d, elems[i]? = some d → wt y ≤ Rows.uptoBulk d.1 := by
      intro i hil
      have hh := hi i hil
      have hin : i < elems.length := by omega
      rw [List.getElem?_eq_getElem hin] at hh ⊢
      obtain ⟨cs', h1, h2⟩ := Option.bind_eq_some_iff.1 hh
      obtain ⟨y, hy, hwt⟩ := he n (by omega) H enc w sp held cs' _ h2
      refine ⟨y, ⟨cs', hy, fun j u hu => ?_⟩, fun d hd => ?_⟩
      · obtain ⟨_, hcl, hat⟩ := World.cells?_some h1
        have hj : j < P.cellsOf e := by
          have := (List.getElem?_eq_some_iff.1 hu).1
          omega
        have := hat j hj
        rw [hce] at this
        rw [← Go.Deep.add_add, this, hu]
      · injection hd with hd
        subst hd
        exact hwt
    obtain ⟨xs, hx1, hx2⟩ := pick_list _ len hel
    refine ⟨xs, ⟨some a, len, cap, rfl, hx1, hl, by simpa [maxLen] using hm, fun hn => ?_⟩, ?_⟩
    · obtain ⟨y0, ⟨es0, hr0, hc0⟩, _⟩ := hel 0 hn
      have hne : 0 < es0.length := by rw [r.len hr0]; exact r.pos
      have hcell := hc0 0 es0[0] (List.getElem?_eq_getElem hne)
      simp only [Nat.zero_mul, Nat.add_zero] at hcell
      obtain ⟨b, off, spot⟩ := a
      have hspot : spot = none := by simpa [Addr.add] using World.cell?_spot hcell
      subst hspot
      have hlt : b < w.heap.size := by simpa [Addr.add] using World.block_lt_of_cell? w _ hcell
      refine ⟨b, off, rfl, hlt, fun i x hx => ?_⟩
      obtain ⟨⟨es, h1, h2⟩, _⟩ := hx2 i x hx
      refine ⟨es, h1, fun j u hu => ?_⟩
      have := h2 j u hu
      rw [Addr.add_lit] at this
      rw [← this, Nat.add_assoc]
    · have := sum_bulk (H := H) wt xs (elems.map (·.1)) (by rw [hx1, List.length_map, hlen]) fun i x d hx hd => by
        rw [List.getElem?_map, Option.map_eq_some_iff] at hd
        obtain ⟨d', hd', rfl⟩ := hd
        exact (hx2 i x hx).2 d' hd'
      simp only [Rows.uptoBulk]
      omega
theorem sum_ones {β : Type} (xs : List β) : (xs.map fun _ => 1).sum = xs.length := by
  induction xs with
  | nil => rfl
  | cons x xs ih => simp only [List.map_cons, List.sum_cons, ih, List.length_cons]; omega
/-- A value of type Sexp is a tree. -/
theorem opensN_tree {tb tB tl ty : TypeId} {fs : Array Field} (ht : P.underlying t = some (.struct fs)) (hf : fs.toList.map (fun f => (f.type, f.offset)) = [(tb, 0), (tb, 1), (tB, 2), (tB, 3), (tl, 4)]) (hc : P.cellsOf t = 5)
    (hb : P.underlying tb = some .bool) (hB : P.underlying tB = some (.slice ty)) (hy : P.underlying ty = some (.int .u8)) (hl : P.underlying tl = some (.slice t))
    (cb : P.cellsOf tb = 1) (cB : P.cellsOf tB = 1) (cy : P.cellsOf ty = 1) (cl : P.cellsOf tl = 1) : ∀ fuel, OpensN P fuel t Rep.tree Tree.wt := by
  intro fuel
  induction fuel using Nat.strongRecOn with
  | _ fuel ih =>
  intro H enc w sp held cs x h
  obtain ⟨xs, n, rfl, rfl, hcl, hlx, hg⟩ := DataW.trod_struct ht h
  have hfl : fs.size = 5 := by
    have := congrArg List.length hf
    simpa using this
  have hfi : ∀ (i : Nat) (p : Nat × Nat), [(tb, 0), (tb, 1), (tB, 2), (tB, 3), (tl, 4)][i]? = some p → ∃ f : Field, fs[i]? = some f ∧ f.type = p.1 ∧ f.offset = p.2 := by
    intro i p hp
    rw [← hf, List.getElem?_map, Option.map_eq_some_iff] at hp
    obtain ⟨f, h1, rfl⟩ := hp
    exact ⟨f, by simpa using h1, rfl, rfl⟩
  have hx5 : xs.length = 5 := by omega
  have hc5 : cs.length = 5 := by omega
  match xs, hx5, cs, hc5 with
  | [x0, x1, x2, x3, x4], _, [c0, c1, c2, c3, c4], _ =>
    obtain ⟨f0, g0, t0, o0⟩ := hfi 0 _ rfl
    obtain ⟨f1, g1, t1, o1⟩ := hfi 1 _ rfl
    obtain ⟨f2, g2, t2, o2⟩ := hfi 2 _ rfl
    obtain ⟨f3, g3, t3, o3⟩ := hfi 3 _ rfl
    obtain ⟨f4, g4, t4, o4⟩ := hfi 4 _ rfl
    have e0 := hg 0 f0 g0
    have e1 := hg 1 f1 g1
    have e2 := hg 2 f2 g2
    have e3 := hg 3 f3 g3
    have e4 := hg 4 f4 g4
    rw [t0, o0, cb] at e0
    rw [t1, o1, cb] at e1
    rw [t2, o2, cB] at e2
    rw [t3, o3, cB] at e3
    rw [t4, o4, cl] at e4
    obtain ⟨b0, q0, r0⟩ := DataW.trod_bool hb e0
    obtain ⟨b1, q1, r1⟩ := DataW.trod_bool hb e1
    have oB : ∀ n, OpensN P n tB Rep.u8.slice (fun xs => (xs.map fun _ => 1).sum + 1) := fun n => opensN_slice n hB cy fun m _ => opensN_u8 m hy cy
    obtain ⟨y2, ⟨A2, n2, k2, q2, s2⟩, w2⟩ := oB _ _ _ _ _ _ _ _ e2
    obtain ⟨y3, ⟨A3, n3, k3, q3, s3⟩, w3⟩ := oB _ _ _ _ _ _ _ _ e3
    obtain ⟨y4, ⟨A4, n4, k4, q4, s4⟩, w4⟩ := opensN_slice (r := Rep.tree) (wt := Tree.wt) n hl hc (fun m hm => ih m (by omega)) _ _ _ _ _ _ _ e4
    simp only [List.drop_zero, List.drop_succ_cons, List.take_succ_cons, List.take_zero, List.cons.injEq, and_true] at q0 q1 q2 q3 q4
    subst q0 q1 q2 q3 q4
    refine ⟨.mk b0 b1 y2 y3 y4, Rep.tree_mk (t := .mk b0 b1 y2 y3 y4) ⟨s2, s3, s4⟩, ?_⟩
    rw [Tree.wt_eq]
    simp only [sum_ones] at w2 w3
    have w4' : (y4.map Tree.wt).sum + 1 ≤ Rows.uptoBulk x4.1 := w4
    simp only [Rows.uptoBulk, Rows.uptoBulkAll, List.map_cons, List.map_nil, Tree.hint, Tree.data, Tree.kids]
    omega
end
end Go.Proofs.YtbeghpkkpnbkgaaGreatDoor
/- From the form's reading to data. -/
namespace Go.Proofs.YtbeghpkkpnbkgaaGreatDoor
open Go.RowKit
/-- Cells that read as data. -/
def CellsR (w : World) (S : Nat → Prop) (ds : List D) (cs : List Value) : Prop := cs.length = ds.length ∧ ∀ (i : Nat) x u, ds[i]? = some x → cs[i]? = some u → RD w S x u
def CellsOf {α : Type} (r : Rep α) (f : α → List D) : Prop := ∀ {w : World} {S : Nat → Prop} {cs : List Value} {y : α}, r.rd w S cs y → CellsR w S (f y) cs
theorem cellsR_nil {w : World} {S : Nat → Prop} : CellsR w S [] [] := ⟨rfl, fun i x u hx => by simp at hx⟩
theorem cellsR_cons {w : World} {S : Nat → Prop} {x : D} {u : Value} {ds : List D} {cs : List Value} (h : RD w S x u) (k : CellsR w S ds cs) : CellsR w S (x :: ds) (u :: cs) :=
  ⟨by simp [k.1], fun i y v hy hv => by
    cases i with
    | zero =>
      simp at hy hv
      subst hy hv
      exact h
    | succ i => exact k.2 i y v (by simpa using hy) (by simpa using hv)⟩
theorem cells_at {α : Type} {f : α → List D} {n : Nat} (hf : ∀ x, (f x).length = n) (hn : 0 < n) {l : List α} {k : Nat} {d : D} (h : (l.flatMap f)[k]? = some d) : ∃ x, l[k / n]? = some x ∧ (f x)[k % n]? = some d := by
  have hk := (List.getElem?_eq_some_iff.1 h).1
  rw [flat_len hf] at hk
  have hq : k / n < l.length := Nat.div_lt_of_lt_mul (by rw [Nat.mul_comm]; exact hk)
  refine ⟨l[k / n], List.getElem?_eq_getElem hq, ?_⟩
  have h1 := flat_at hf (List.getElem?_eq_getElem hq)
  have h2 : (((l.flatMap f).drop (k / n * n)).take n)[k % n]? = some d := by
    rw [List.getElem?_take, if_pos (Nat.mod_lt _ hn), List.getElem?_drop, Nat.div_add_mod']
    exact h
  rw [h1] at h2
  exact h2
/-- A slice of what reads so. -/
theorem rd_slice {α : Type} {w : World} {S : Nat → Prop} {r : Rep α} {f : α → List D} {A : Option Addr} {n c : Nat} {l : List α} (hlen : ∀ x, (f x).length = r.size)
    (hc : ∀ {es : List Value} {y : α}, y ∈ l → r.rd w S es y → CellsR w S (f y) es) (h : r.sl w S A n c l) : RD w S (.sl l.length (l.flatMap f)) (.slice A n c) := by
  obtain ⟨rfl, hnc, hcm, hh⟩ := h
  by_cases h0 : 0 < l.length
  · obtain ⟨b, o, rfl, hb, hr⟩ := hh h0
    have key : ∀ (k : Nat) d, (l.flatMap f)[k]? = some d → w.cell? ⟨b, o + k, none⟩ = some ((w.cell? ⟨b, o + k, none⟩).getD undef) ∧ RD w S d ((w.cell? ⟨b, o + k, none⟩).getD undef) := fun k d hd => by
      obtain ⟨x, hx, hxd⟩ := cells_at hlen r.pos hd
      obtain ⟨es, he, hce⟩ := hr _ x hx
      obtain ⟨g1, g2⟩ := hc (List.mem_of_getElem? hx) he
      have hlt : k % r.size < es.length := by rw [g1, hlen]; exact Nat.mod_lt _ r.pos
      have h1 := hce _ _ (List.getElem?_eq_getElem hlt)
      rw [Nat.add_assoc, Nat.div_add_mod'] at h1
      rw [h1]
      exact ⟨rfl, g2 _ d _ hxd (List.getElem?_eq_getElem hlt)⟩
    exact .sl _ c b o _ _ hnc hcm hb (fun k d hd => (key k d hd).1) fun k d hd => (key k d hd).2
  · have : l = [] := List.eq_nil_of_length_eq_zero (by omega)
    subst this
    exact .nil A c hcm
theorem cellsOf_u8 : CellsOf Rep.u8 (fun b => [bD b]) := by
  rintro w S cs y h
  have h : cs = _ := h
  subst h
  exact cellsR_cons (.v _ rfl) cellsR_nil
theorem flatMap_one : ∀ l : List UInt8, l.flatMap (fun b => [bD b]) = l.map bD
  | [] => rfl
  | x :: l => by rw [List.flatMap_cons, flatMap_one l]; rfl
theorem rd_bytes {w : World} {S : Nat → Prop} {A : Option Addr} {n c : Nat} {l : List UInt8} (h : Rep.u8.sl w S A n c l) : RD w S (bytesD l) (.slice A n c) := by
  have h9 := rd_slice (f := fun b => [bD b]) (fun _ => rfl) (fun _ hr => cellsOf_u8 hr) h
  rw [flatMap_one] at h9
  exact h9
theorem cellsOf_tree : CellsOf Rep.tree treeC := by
  intro w S cs y h
  revert cs
  refine Tree.ind (P := fun y => ∀ {cs : List Value}, Rep.tree.rd w S cs y → CellsR w S (treeC y) cs) (fun t ih cs h => ?_) y
  have h : Tree.rd w S cs t := h
  rw [Tree.rd] at h
  obtain ⟨A1, n1, c1, A2, n2, c2, A3, n3, c3, rfl, h1, h2, h3, h4, h5, h6⟩ := h
  rw [treeC_eq]
  refine cellsR_cons (.v _ rfl) (cellsR_cons (.v _ rfl) (cellsR_cons (rd_bytes h1) (cellsR_cons (rd_bytes h2) (cellsR_cons ?_ cellsR_nil))))
  exact rd_slice (r := Rep.tree) treeC_len (fun hy hr => ih _ hy hr) ⟨h3, h4, h5, h6⟩
theorem drd_g {w : World} {S : Nat → Prop} {ds : List D} {cs : List Value} (h : CellsR w S ds cs) : DRd w S (.g ds) (.agg cs.toArray) := ⟨cs, rfl, h.1, h.2⟩
theorem dargs_nil {w : World} {S : Nat → Prop} : DArgs w S [] [] := ⟨rfl, fun i x u hx => by simp at hx⟩
theorem dargs_cons {w : World} {S : Nat → Prop} {x : DV} {u : Value} {ds : List DV} {cs : List Value} (h : DRd w S x u) (k : DArgs w S ds cs) : DArgs w S (x :: ds) (u :: cs) :=
  ⟨by simp [k.1], fun i y v hy hv => by
    cases i with
    | zero =>
      simp at hy hv
      subst hy hv
      exact h
    | succ i => exact k.2 i y v (by simpa using hy) (by simpa using hv)⟩
/-- A law of data, called. -/
theorem law_calls {P : Program} {G : Nat → Option (List D)} {f : FuncId} {args : List DV} {vs : List Value} {W : World} (h : Spec P G f args (.one (.c (.v (.bool true))))) (hT : Tables G W (fun b => b < W.heap.size)) (hA : DArgs W (fun b => b < W.heap.size) args vs) :
    Calls P f vs.toArray W fun e W' => e = .returned (.bool true) ∧ Below W.heap.size W W' := by
  refine Calls.mono (h W _ vs (fun b hb => hb) hT hA) ?_
  rintro e W1 ⟨hE, u, rfl, hu⟩
  have hu : RD W1 _ (.v (.bool true)) u := hu
  cases hu
  exact ⟨rfl, below_ev hE⟩
end Go.Proofs.YtbeghpkkpnbkgaaGreatDoor
/- A value's form. -/
namespace Go.Proofs.YtbeghpkkpnbkgaaGreatDoor
open Go.RowKit
theorem form_m {G : Nat → Option (List D)} : ∀ t : Tree, ∀ cs : List D, treeC t = cs → t.wt ≤ 10000000 → Spec Tryz.prog G 38 [.g cs] (.one (.c (bytesD t.form))) := Tree.ind fun t ih cs hcs hw => by
  subst hcs
  have hf := Tree.form_wt t hw
  refine spec_of Tryz.func38 rfl rfl rfl (by kernel_rfl) rfl fun K => ?_
  rw [treeC_eq]
  cases hl : t.list with
  | false =>
    have hlh := t.wt_hint
    have hld := t.wt_data
    have h1 := textB_len (b := t.hint) (n := 10000000) (by omega) (by omega)
    have h2 := textB_len (b := t.data) (n := 10000000) (by omega) (by omega)
    (repeat' (first | with_reducible (first | refine zA fun Kn hK => ?_ | refine zB (by kernel_rfl) ?_ | refine Nx.go ?_ | go_step) | (refine ⟨_, text_m t.hint (by omega), ?_⟩) | (refine ⟨_, text_m t.data (by omega), ?_⟩) | with_reducible (first | refine zI ?_ | refine zJ ?_ | refine zK ?_ ?_ | refine zL ?_ ?_ | refine zR (by kernel_rfl) ?_) | simp (maxSteps := 9999999) (disch := omega) only [wq] | (with_reducible refine zM (fun hb => ?_) (fun hb => ?_) <;> (try simp only [hb])) | (with_reducible refine And.intro (by first | omega | (simp; done) | (simp; omega)) ?_) | simp (maxSteps := 9999999) (implicitDefEqProofs := false) only [go_sem, List.length_map] | fail))
    all_goals
      rw [t.form_eq, hl]
      simp only [Tree.atomF, hb]
      simp [bytesD, bD, Nat.add_comm, Nat.add_left_comm, Nat.add_assoc]
  | true =>
    have hfe := t.form_eq
    rw [hl] at hfe
    have hfl : ∀ k, (((t.kids.take k).map Tree.form).flatten).length ≤ t.form.length := fun k => by
      rw [hfe]
      simp only [if_true, List.length_append, List.length_flatten, List.map_map, Function.comp_def]
      have := sum_upto (l := t.kids) (k := k) fun x => x.form.length
      omega
    (repeat' (first | with_reducible (first | refine zA fun Kn hK => ?_ | refine zB (by kernel_rfl) ?_ | refine Nx.go ?_ | go_step) | fail | with_reducible (first | refine zI ?_ | refine zJ ?_ | refine zK ?_ ?_ | refine zL ?_ ?_ | refine zR (by kernel_rfl) ?_) | simp (maxSteps := 9999999) (disch := omega) only [wq] | (with_reducible refine zM (fun hb => ?_) (fun hb => ?_) <;> (try simp only [hb])) | (with_reducible refine And.intro (by first | omega | (simp; done) | (simp; omega)) ?_) | simp (maxSteps := 9999999) (implicitDefEqProofs := false) only [go_sem, true_and] | fail))
    refine sound_loopR (fun x : {k : Nat // k ≤ t.kids.length} => ⟨[(1, vP 1 0), (3, vR 1000 1 (1 + (((t.kids.take x.1).map Tree.form).flatten).length)), (13, vI t.kids.length), (14, vI x.1)], [(1, some ⟨27, treeK t, true, false⟩), (1000, some ⟨5, ((40 :: ((t.kids.take x.1).map Tree.form).flatten).map bD).map C.d, false, false⟩)]⟩) (fun x => t.kids.length - x.1) ⟨0, by omega⟩ [(1000, 10)] (by (iterate 2 ((try simp (maxSteps := 9999999) (implicitDefEqProofs := false) only [go_sem, hl]); (try simp (maxSteps := 9999999) (disch := omega) only [wq]))); simp [bD, C.ren]) (fun ⟨k, hk⟩ => ?_)
    have h5 := t.wt_kids
    have h6 := hfl k
    by_cases hlt : k < t.kids.length
    · obtain ⟨x, hx⟩ : ∃ x, t.kids[k]? = some x := ⟨_, List.getElem?_eq_getElem hlt⟩
      have hb : decide ((k : Int) < (t.kids.length : Int)) = true := by simpa using hlt
      have hm := List.mem_of_getElem? hx
      have hxw := Tree.wt_kid hm
      have h7 := Tree.form_wt x (by omega)
      (repeat' (first | with_reducible (first | refine zA fun Kn hK => ?_ | refine zB (by kernel_rfl) ?_ | refine Nx.go ?_ | go_step) | (refine ⟨_, ih x hm _ rfl (by omega), ?_⟩) | with_reducible (first | refine zI ?_ | refine zJ ?_ | refine zK ?_ ?_ | refine zL ?_ ?_ | refine zR (by kernel_rfl) ?_) | simp (maxSteps := 9999999) (disch := omega) only [wq] | (with_reducible refine zM (fun hb => ?_) (fun hb => ?_) <;> (try simp only [hb])) | (with_reducible refine And.intro (by first | omega | (simp; done) | (simp; omega)) ?_) | simp (maxSteps := 9999999) (implicitDefEqProofs := false) only [go_sem, hb, flat_at treeC_len hx, List.length_map] | fail))
      refine ⟨[(1000, 24)], ⟨k + 1, hlt⟩, ?_⟩
      have h8 : ((t.kids.take (k + 1)).map Tree.form).flatten = ((t.kids.take k).map Tree.form).flatten ++ x.form := by
        rw [List.take_add_one, hx]
        simp
      (iterate 2 ((try simp (maxSteps := 9999999) (implicitDefEqProofs := false) only [go_sem, h8]); (try simp (maxSteps := 9999999) (disch := omega) only [wq])))
      simp [Nat.add_assoc]
      omega
    · have hb : decide ((k : Int) < (t.kids.length : Int)) = false := by simpa using hlt
      obtain rfl : k = t.kids.length := by omega
      rw [List.take_length] at h6
      (repeat' (first | with_reducible (first | refine zA fun Kn hK => ?_ | refine zB (by kernel_rfl) ?_ | refine Nx.go ?_ | go_step) | fail | with_reducible (first | refine zI ?_ | refine zJ ?_ | refine zK ?_ ?_ | refine zL ?_ ?_ | refine zR (by kernel_rfl) ?_) | simp (maxSteps := 9999999) (disch := omega) only [wq] | (with_reducible refine zM (fun hb => ?_) (fun hb => ?_) <;> (try simp only [hb])) | (with_reducible refine And.intro (by first | omega | (simp; done) | (simp; omega)) ?_) | simp (maxSteps := 9999999) (implicitDefEqProofs := false) only [go_sem, hb, List.take_length, List.length_map] | fail))
      rw [hfe]
      simp [bD, Nat.add_comm]
end Go.Proofs.YtbeghpkkpnbkgaaGreatDoor
/- The reference's tellings of a value: depth, greatness, form. -/
namespace Go.Proofs.YtbeghpkkpnbkgaaGreatDoor
open Go.RowKit
theorem most_at {l : List Tree} {k : Nat} {x : Tree} (h : l[k]? = some x) : most ((l.take (k + 1)).map Tree.deep) = max (most ((l.take k).map Tree.deep)) x.deep := by
  rw [List.take_add_one, h]
  simp [most_snoc]
theorem most_take {l : List Tree} {k n : Nat} (h : ∀ x ∈ l, x.deep ≤ n) : most ((l.take k).map Tree.deep) ≤ n := by
  rw [most_le]
  intro j hj
  obtain ⟨x, hx, rfl⟩ := List.mem_map.1 hj
  exact h x (List.mem_of_mem_take hx)
theorem deep_m {G : Nat → Option (List D)} : ∀ t : Tree, ∀ cs : List D, treeC t = cs → t.wt ≤ 1000000000 → Spec Tryz.prog G 37 [.g cs] (.one (.c (.v (.int .i64 t.deep)))) := Tree.ind fun t ih cs hcs hw => by
  subst hcs
  refine spec_of Tryz.func37 rfl rfl rfl (by kernel_rfl) rfl fun K => ?_
  rw [treeC_eq]
  cases hl : t.list with
  | false =>
    (repeat' (first | with_reducible (first | refine zA fun Kn hK => ?_ | refine zB (by kernel_rfl) ?_ | refine Nx.go ?_ | go_step) | fail | with_reducible (first | refine zI ?_ | refine zJ ?_ | refine zK ?_ ?_ | refine zL ?_ ?_ | refine zR (by kernel_rfl) ?_) | simp (maxSteps := 9999999) (disch := omega) only [wq] | (with_reducible refine zM (fun hb => ?_) (fun hb => ?_) <;> (try simp only [hb])) | (with_reducible refine And.intro (by first | omega | (simp; done) | (simp; omega)) ?_) | simp (maxSteps := 9999999) (implicitDefEqProofs := false) only [go_sem, hl] | fail))
    rw [t.deep_eq, hl]
    rfl
  | true =>
    (repeat' (first | with_reducible (first | refine zA fun Kn hK => ?_ | refine zB (by kernel_rfl) ?_ | refine Nx.go ?_ | go_step) | fail | with_reducible (first | refine zI ?_ | refine zJ ?_ | refine zK ?_ ?_ | refine zL ?_ ?_ | refine zR (by kernel_rfl) ?_) | simp (maxSteps := 9999999) (disch := omega) only [wq] | (with_reducible refine zM (fun hb => ?_) (fun hb => ?_) <;> (try simp only [hb])) | (with_reducible refine And.intro (by first | omega | (simp; done) | (simp; omega)) ?_) | simp (maxSteps := 9999999) (implicitDefEqProofs := false) only [go_sem, hl] | fail))
    refine sound_loopR (fun x : {k : Nat // k ≤ t.kids.length} => ⟨[(1, vP 1 0), (3, vI (most ((t.kids.take x.1).map Tree.deep) : Nat)), (10, vI t.kids.length), (11, vI x.1)], [(1, some ⟨27, treeK t, true, false⟩)]⟩) (fun x => t.kids.length - x.1) ⟨0, by omega⟩ [] (by (iterate 2 ((try simp (maxSteps := 9999999) (implicitDefEqProofs := false) only [go_sem, hl]); (try simp (maxSteps := 9999999) (disch := omega) only [wq]))); simp [most]) (fun ⟨k, hk⟩ => ?_)
    have h5 := t.wt_kids
    have h6 : most ((t.kids.take k).map Tree.deep) ≤ 1000000000 := most_take fun x hx => by have := x.deep_wt; have := Tree.wt_kid hx; omega
    by_cases hlt : k < t.kids.length
    · obtain ⟨x, hx⟩ : ∃ x, t.kids[k]? = some x := ⟨_, List.getElem?_eq_getElem hlt⟩
      have hb : decide ((k : Int) < (t.kids.length : Int)) = true := by simpa using hlt
      have hm := List.mem_of_getElem? hx
      (repeat' (first | with_reducible (first | refine zA fun Kn hK => ?_ | refine zB (by kernel_rfl) ?_ | refine Nx.go ?_ | go_step) | (refine ⟨_, ih x hm _ rfl (by have := Tree.wt_kid hm; omega), ?_⟩) | with_reducible (first | refine zI ?_ | refine zJ ?_ | refine zK ?_ ?_ | refine zL ?_ ?_ | refine zR (by kernel_rfl) ?_) | simp (maxSteps := 9999999) (disch := omega) only [wq] | (with_reducible refine zM (fun hb => ?_) (fun hb => ?_) <;> (try simp only [hb])) | (with_reducible refine And.intro (by first | omega | (simp; done) | (simp; omega)) ?_) | simp (maxSteps := 9999999) (implicitDefEqProofs := false) only [go_sem, hb, flat_at treeC_len hx] | fail))
      refine ⟨[], ⟨k + 1, hlt⟩, ?_⟩
      have h7 := most_at hx
      (iterate 2 ((try simp (maxSteps := 9999999) (implicitDefEqProofs := false) only [go_sem, hl]); (try simp (maxSteps := 9999999) (disch := omega) only [wq])))
      (simp only [ijq, true_and, and_true]; first | done | omega | (split <;> omega) | (simp; done) | (simp; omega))
    · have hb : decide ((k : Int) < (t.kids.length : Int)) = false := by simpa using hlt
      obtain rfl : k = t.kids.length := by omega
      rw [List.take_length] at h6
      (repeat' (first | with_reducible (first | refine zA fun Kn hK => ?_ | refine zB (by kernel_rfl) ?_ | refine Nx.go ?_ | go_step) | fail | with_reducible (first | refine zI ?_ | refine zJ ?_ | refine zK ?_ ?_ | refine zL ?_ ?_ | refine zR (by kernel_rfl) ?_) | simp (maxSteps := 9999999) (disch := omega) only [wq] | (with_reducible refine zM (fun hb => ?_) (fun hb => ?_) <;> (try simp only [hb])) | (with_reducible refine And.intro (by first | omega | (simp; done) | (simp; omega)) ?_) | simp (maxSteps := 9999999) (implicitDefEqProofs := false) only [go_sem, hb, List.take_length] | fail))
      rw [t.deep_eq, hl]
      rfl
def Tree.great (t : Tree) (k : Nat) : Bool :=
  decide ((60 : Int) < k) || decide ((700 : Int) < t.kids.length) || decide ((5000 : Int) < t.hint.length) || decide ((5000 : Int) < t.data.length) || t.kids.attach.any (fun x => Tree.great x.1 (k + 1)) || (((k : Int) == 0) && decide ((2000 : Int) < t.nodes))
termination_by SizeOf.sizeOf t
decreasing_by exact Tree.kid_lt x.2
theorem Tree.great_eq (t : Tree) (k : Nat) : t.great k = (decide ((60 : Int) < k) || decide ((700 : Int) < t.kids.length) || decide ((5000 : Int) < t.hint.length) || decide ((5000 : Int) < t.data.length) || t.kids.any (fun x => Tree.great x (k + 1)) || (((k : Int) == 0) && decide ((2000 : Int) < t.nodes))) := by
  rw [Tree.great]
  congr 2
  simp
theorem great_m {G : Nat → Option (List D)} : ∀ t : Tree, ∀ (cs : List D) (k : Nat), treeC t = cs → t.wt ≤ 1000000000 → k ≤ 61 → Spec Tryz.prog G 16 [.g cs, .c (.v (.int .i64 k))] (.one (.c (.v (.bool (t.great k))))) := Tree.ind fun t ih cs d hcs hw hd => by
  subst hcs
  refine spec_of Tryz.func16 rfl rfl rfl (by kernel_rfl) rfl fun K => ?_
  rw [treeC_eq]
  refine zA fun Kn hK => ?_
  refine zB (by kernel_rfl) ?_
  (iterate 2 ((try simp (maxSteps := 9999999) (implicitDefEqProofs := false) only [go_sem, true_and]); (try simp (maxSteps := 9999999) (disch := omega) only [wq])))
  refine hK _ ?_; clear hK; clear Kn
  refine zA fun Kn hK => ?_
  have hL : (decide ((60 : Int) < d) || decide ((700 : Int) < t.kids.length) || decide ((5000 : Int) < t.hint.length) || decide ((5000 : Int) < t.data.length)) = false → ∀ s, LessL (renK []) ⟨[(1, vI d), (2, vP 2 0)], [(2, some ⟨27, treeK t, true, false⟩)]⟩ (Fr0 Tryz.f16.ntmps) s → Kn s := by
    intro hf s hl
    refine hK _ (sound_lessR _ _ hl ?_)
    clear hK hl
    (repeat' (first | with_reducible (first | refine zA fun Kn hK => ?_ | refine zB (by kernel_rfl) ?_ | refine Nx.go ?_ | go_step) | fail | with_reducible (first | refine zI ?_ | refine zJ ?_ | refine zK ?_ ?_ | refine zL ?_ ?_ | refine zR (by kernel_rfl) ?_) | simp (maxSteps := 9999999) (disch := omega) only [wq] | (with_reducible refine zM (fun hb => ?_) (fun hb => ?_) <;> (try simp only [hb])) | (with_reducible refine And.intro (by first | omega | (simp; done) | (simp; omega)) ?_) | simp (maxSteps := 9999999) (implicitDefEqProofs := false) only [go_sem, true_and] | fail))
    refine sound_loopR (fun x : {k : Nat // k ≤ t.kids.length ∧ (t.kids.take k).any (fun x => x.great (d + 1)) = false} => ⟨[(1, vI d), (2, vP 2 0), (28, vI t.kids.length), (29, vI x.1)], [(2, some ⟨27, treeK t, true, false⟩)]⟩) (fun x => t.kids.length - x.1) ⟨0, by simp⟩ [] (by simp (maxSteps := 9999999) (implicitDefEqProofs := false) only [go_sem]; simp) (fun ⟨k, hk, hall⟩ => ?_)
    have h5 := t.wt_kids
    have h6 : d ≤ 60 := by
      simp only [Bool.or_eq_false_iff, decide_eq_false_iff_not] at hf
      omega
    by_cases hlt : k < t.kids.length
    · obtain ⟨x, hx⟩ : ∃ x, t.kids[k]? = some x := ⟨_, List.getElem?_eq_getElem hlt⟩
      have hb : decide ((k : Int) < (t.kids.length : Int)) = true := by simpa using hlt
      have hm := List.mem_of_getElem? hx
      (repeat' (first | with_reducible (first | refine zA fun Kn hK => ?_ | refine zB (by kernel_rfl) ?_ | refine Nx.go ?_ | go_step) | (refine ⟨_, ih x hm _ (d + 1) rfl (by have := Tree.wt_kid hm; omega) (by omega), ?_⟩) | with_reducible (first | refine zI ?_ | refine zJ ?_ | refine zK ?_ ?_ | refine zL ?_ ?_ | refine zR (by kernel_rfl) ?_) | simp (maxSteps := 9999999) (disch := omega) only [wq] | (with_reducible refine zM (fun hb => ?_) (fun hb => ?_) <;> (try simp only [hb])) | (with_reducible refine And.intro (by first | omega | (simp; done) | (simp; omega)) ?_) | simp (maxSteps := 9999999) (implicitDefEqProofs := false) only [go_sem, hb, flat_at treeC_len hx] | fail))
      · rw [t.great_eq]
        have : t.kids.any (fun x => x.great (d + 1)) = true := List.any_eq_true.2 ⟨x, hm, by simp_all⟩
        rw [this]
        simp
      · refine ⟨[], ⟨k + 1, hlt, ?_⟩, ?_⟩
        · rw [List.take_add_one, hx]
          simp_all
        · (iterate 2 ((try simp (maxSteps := 9999999) (implicitDefEqProofs := false) only [go_sem, true_and]); (try simp (maxSteps := 9999999) (disch := omega) only [wq])))
          (simp only [ijq, true_and, and_true]; first | done | omega | (split <;> omega) | (simp; done) | (simp; omega))
    · have hb : decide ((k : Int) < (t.kids.length : Int)) = false := by simpa using hlt
      obtain rfl : k = t.kids.length := by omega
      (repeat' (first | with_reducible (first | refine zA fun Kn hK => ?_ | refine zB (by kernel_rfl) ?_ | refine Nx.go ?_ | go_step) | (refine ⟨_, nodes_m t _ (by first | rfl | (rw [treeC_eq]; first | rfl | (simp only [go_sem, *]; done))) hw, ?_⟩) | with_reducible (first | refine zI ?_ | refine zJ ?_ | refine zK ?_ ?_ | refine zL ?_ ?_ | refine zR (by kernel_rfl) ?_) | simp (maxSteps := 9999999) (disch := omega) only [wq] | (with_reducible refine zM (fun hb => ?_) (fun hb => ?_) <;> (try simp only [hb])) | (with_reducible refine And.intro (by first | omega | (simp; done) | (simp; omega)) ?_) | simp (maxSteps := 9999999) (implicitDefEqProofs := false) only [go_sem, hb] | fail))
      all_goals
        rw [List.take_length] at hall
        rw [t.great_eq, hf, hall]
        simp only [hb]
        rfl
  clear hK
  (repeat' (first | with_reducible (first | refine zA fun Kn hK => ?_ | refine zB (by kernel_rfl) ?_ | refine Nx.go ?_ | go_step) | (refine hL (by simp only [*]; rfl) _ ?_) | with_reducible (first | refine zI ?_ | refine zJ ?_ | refine zK ?_ ?_ | refine zL ?_ ?_ | refine zR (by kernel_rfl) ?_) | simp (maxSteps := 9999999) (disch := omega) only [wq] | (with_reducible refine zM (fun hb => ?_) (fun hb => ?_) <;> (try simp only [hb])) | (with_reducible refine And.intro (by first | omega | (simp; done) | (simp; omega)) ?_) | simp (maxSteps := 9999999) (implicitDefEqProofs := false) only [go_sem, gt_iff_lt] | fail))
  all_goals (clear ih; first | (simp only [*]; done) | (rw [t.great_eq]; simp only [*]; rfl) | (rw [t.great_eq]; simp only [*]; simp; done))
end Go.Proofs.YtbeghpkkpnbkgaaGreatDoor
/- May a value be? -/
namespace Go.Proofs.YtbeghpkkpnbkgaaGreatDoor
open Go.RowKit
theorem may_m {G : Nat → Option (List D)} (t : Tree) {cs : List D} (hcs : treeC t = cs) (hw : t.wt ≤ 10000000) : Spec Tryz.prog G 13 [.g cs] (.one (.c (.v (.bool t.may)))) := by
  subst hcs
  refine spec_of Tryz.func13 rfl rfl rfl (by kernel_rfl) rfl fun K => ?_
  rw [treeC_eq]
  have e1 : decide ((t.nodes : Int) ≤ 512) = decide (t.nodes ≤ 512) := by rw [decide_eq_decide]; omega
  have e2 : decide ((t.deep : Int) ≤ 16) = decide (t.deep ≤ 16) := by rw [decide_eq_decide]; omega
  have e3 : decide ((t.form.length : Int) ≤ 4096) = decide (t.form.length ≤ 4096) := by rw [decide_eq_decide]; omega
  (repeat' (first | with_reducible (first | refine zA fun Kn hK => ?_ | refine zB (by kernel_rfl) ?_ | refine Nx.go ?_ | go_step) | (refine ⟨_, clean_m t _ (by first | rfl | (rw [treeC_eq]; first | rfl | (simp only [go_sem, *]; done))) (by omega), ?_⟩) | (refine ⟨_, nodes_m t _ (by first | rfl | (rw [treeC_eq]; first | rfl | (simp only [go_sem, *]; done))) (by omega), ?_⟩) | (refine ⟨_, deep_m t _ (by first | rfl | (rw [treeC_eq]; first | rfl | (simp only [go_sem, *]; done))) (by omega), ?_⟩) | (refine ⟨_, form_m t _ (by first | rfl | (rw [treeC_eq]; first | rfl | (simp only [go_sem, *]; done))) (by omega), ?_⟩) | with_reducible (first | refine zI ?_ | refine zJ ?_ | refine zK ?_ ?_ | refine zL ?_ ?_ | refine zR (by kernel_rfl) ?_) | simp (maxSteps := 9999999) (disch := omega) only [wq] | (with_reducible refine zM (fun hb => ?_) (fun hb => ?_) <;> (try simp only [hb])) | (with_reducible refine And.intro (by first | omega | (simp; done) | (simp; omega)) ?_) | simp (maxSteps := 9999999) (implicitDefEqProofs := false) only [go_sem, e1, e2, e3] | fail))
  all_goals (rw [Tree.may]; simp only [*]; rfl)
end Go.Proofs.YtbeghpkkpnbkgaaGreatDoor
/-
  DERIVED: THE SHELF's CONTRACTS AT THIS DUMP, IN PLAIN WORDS (tools/lay-plain.mjs out of 'TryzShelf.lean', which tools/lay-shelf.mjs wrote): THE SAME DECLARATIONS UNDER THE SAME NAMES: 'import', 'namespace', 'open', 'def', 'theorem' AND NOTHING ELSE: no command of the shelf's: FOR A HAND-IN. Each laying: the table of numbers ('.._ren') and one theorem, a field a fact of the dump's own or the kernel's comparison; each contract: ONE APPLICATION.
-/
namespace Go.Proofs
open Go.Shelf
def Tryz.laysM171_ren : Go.Shelf.Ren := ⟨fun | 171 => 93 | 243 => 106 | 246 => 126 | 283 => 140 | 284 => 141 | 285 => 142 | 286 => 143 | 129 => 152 | 317 => 151 | 318 => 153 | 319 => 154 | 320 => 155 | 337 => 159 | 338 => 160 | n => n, fun | 3 => 3 | 9 => 9 | 2 => 2 | 4 => 4 | 171 => 144 | 0 => 0 | 53 => 132 | 37 => 24 | 5 => 5 | 173 => 147 | 212 => 156 | 51 => 157 | 20 => 20 | 213 => 158 | 46 => 150 | 232 => 167 | 233 => 168 | n => n, fun | 17 => 2 | 18 => 5 | 19 => 6 | n => n⟩
theorem Tryz.laysM171 : Go.Proofs.LaysM.n171 Tryz.prog Tryz.laysM171_ren := {
  mixed := by kernel_rfl
  f129 := Tryz.func152.trans (congrArg some (by kernel_rfl))
  f171 := Tryz.func93.trans (congrArg some (by kernel_rfl))
  f243 := Tryz.func106.trans (congrArg some (by kernel_rfl))
  f246 := Tryz.func126.trans (congrArg some (by kernel_rfl))
  f283 := Tryz.func140.trans (congrArg some (by kernel_rfl))
  f284 := Tryz.func141.trans (congrArg some (by kernel_rfl))
  f285 := Tryz.func142.trans (congrArg some (by kernel_rfl))
  f286 := Tryz.func143.trans (congrArg some (by kernel_rfl))
  f317 := Tryz.func151.trans (congrArg some (by kernel_rfl))
  f318 := Tryz.func153.trans (congrArg some (by kernel_rfl))
  f319 := Tryz.func154.trans (congrArg some (by kernel_rfl))
  f320 := Tryz.func155.trans (congrArg some (by kernel_rfl))
  f337 := Tryz.func159.trans (congrArg some (by kernel_rfl))
  f338 := Tryz.func160.trans (congrArg some (by kernel_rfl))
  t0 := Tryz.underlying0
  a0 := Tryz.isAgg0
  z0 := Tryz.sizeOf0
  v0 := Tryz.zeroValue0
  t2 := Tryz.underlying2
  a2 := Tryz.isAgg2
  z2 := Tryz.sizeOf2
  v2 := Tryz.zeroValue2
  t3 := Tryz.underlying3
  a3 := Tryz.isAgg3
  z3 := Tryz.sizeOf3
  v3 := Tryz.zeroValue3
  t4 := Tryz.underlying4
  a4 := Tryz.isAgg4
  z4 := Tryz.sizeOf4
  v4 := Tryz.zeroValue4
  t5 := Tryz.underlying5
  a5 := Tryz.isAgg5
  z5 := Tryz.sizeOf5
  v5 := Tryz.zeroValue5
  t9 := Tryz.underlying9
  a9 := Tryz.isAgg9
  z9 := Tryz.sizeOf9
  v9 := Tryz.zeroValue9
  t20 := Tryz.underlying20
  a20 := Tryz.isAgg20
  z20 := Tryz.sizeOf20
  v20 := Tryz.zeroValue20
  t37 := Tryz.underlying24
  a37 := Tryz.isAgg24
  z37 := Tryz.sizeOf24
  v37 := Tryz.zeroValue24
  t46 := Tryz.underlying150
  a46 := Tryz.isAgg150
  z46 := Tryz.sizeOf150
  v46 := Tryz.zeroValue150
  t51 := Tryz.underlying157
  a51 := Tryz.isAgg157
  z51 := Tryz.sizeOf157
  v51 := Tryz.zeroValue157
  t53 := Tryz.underlying132
  a53 := Tryz.isAgg132
  z53 := Tryz.sizeOf132
  v53 := Tryz.zeroValue132
  t171 := Tryz.underlying144
  a171 := Tryz.isAgg144
  z171 := Tryz.sizeOf144
  v171 := Tryz.zeroValue144
  t173 := Tryz.underlying147
  a173 := Tryz.isAgg147
  z173 := Tryz.sizeOf147
  v173 := Tryz.zeroValue147
  t212 := Tryz.underlying156
  a212 := Tryz.isAgg156
  z212 := Tryz.sizeOf156
  v212 := Tryz.zeroValue156
  t213 := Tryz.underlying158
  a213 := Tryz.isAgg158
  z213 := Tryz.sizeOf158
  t232 := Tryz.underlying167
  a232 := Tryz.isAgg167
  z232 := Tryz.sizeOf167
  v232 := Tryz.zeroValue167
  t233 := Tryz.underlying168
  a233 := Tryz.isAgg168
  z233 := Tryz.sizeOf168
  v233 := Tryz.zeroValue168
  g17 := by kernel_rfl
  g18 := by kernel_rfl
  g19 := by kernel_rfl
  i0 := by kernel_rfl
  i2 := by kernel_rfl
  i3 := by kernel_rfl
  i4 := by kernel_rfl
  i5 := by kernel_rfl
  i9 := by kernel_rfl
  i20 := by kernel_rfl
  i37 := by kernel_rfl
  i46 := by kernel_rfl
  i51 := by kernel_rfl
  i53 := by kernel_rfl
  i171 := by kernel_rfl
  i173 := by kernel_rfl
  i212 := by kernel_rfl
  i232 := by kernel_rfl
  i233 := by kernel_rfl
  m17 := by kernel_rfl
  m18 := by kernel_rfl
  m19 := by kernel_rfl }
open Go.RowKit Go.Sort Go.Lib in
/-- strconv.Itoa: "Itoa is equivalent to FormatInt(int64(i), 10).": i's DECIMAL NUMERAL ('Lib.itoa': a '-' where i is negative, then the digits), FOR EVERY int. The world behind the call: the world before it, new blocks behind the heap (the library's 'var a [24]byte'), draws. (LAID: no walk: one application.) -/
theorem Tryz.strconv_Itoa (n : Int) (h0 : -9223372036854775808 ≤ n) (h1 : n ≤ 9223372036854775807) (w : World) (htab : Lib.TabIs Tryz.prog w "internal/strconv.uint64pow10" .u64 Lib.pow10Tab) :
    Calls Tryz.prog 93 #[.int .i64 n] w fun e w' => e = .returned (.string ⟨(Lib.itoa n).toArray⟩) ∧ ∃ k os, w' = grow (w.drewN k) os := Any.strconv_Itoa Tryz.laysM171 n h0 h1 w htab
end Go.Proofs
/- The program's digits, out of the library's contract. -/
namespace Go.Proofs.YtbeghpkkpnbkgaaGreatDoor
open Go.RowKit
theorem dec_libM (n : Nat) : Lib.decDigits n = dec n := by
  induction n using Nat.strongRecOn with
  | _ n ih =>
    rw [Lib.decDigits, dec]
    split
    · rfl
    · rw [ih _ (by omega)]
theorem itoa_libM (n : Nat) : Lib.itoa (n : Int) = dec n := by
  rw [Lib.itoa, if_neg (by omega), ← dec_libM]
  rfl
/-- The library's table of powers, as data. -/
def powD : List D := Lib.pow10Tab.map fun z => .v (.int .u64 z)
theorem powG_ok : Tryz.prog.globalNamed "internal/strconv.uint64pow10" = some 2 := by kernel_rfl
theorem tab_is {w : World} {S : Nat → Prop} (h : Tab w S 2 powD) : Lib.TabIs Tryz.prog w "internal/strconv.uint64pow10" .u64 Lib.pow10Tab := by
  obtain ⟨h1, h2, arr, ty, fz, h3, h4⟩ := h
  unfold Lib.TabIs World.var?
  rw [powG_ok, Option.bind_some, h3]
  show some arr = _
  refine congrArg some (Array.ext ?_ ?_)
  · rw [h4]
    simp [powD]
  · intro i hi hj
    have hi' : i < powD.length := by omega
    generalize hp : Value.pointer (some ⟨2, 0, none⟩) = u at h1
    cases h1 with
    | ptr off b o cs us hb hw hr =>
      injection hp with hp
      injection hp with hp
      injection hp with hp1 hp2
      subst hp1
      have ho : o = 0 := by omega
      subst ho
      have g0 : powD[i]? = some powD[i] := List.getElem?_eq_getElem hi'
      have g1 := hw i _ g0
      have g2 := hr i _ g0
      have g3 : powD[i] = .v (.int .u64 (Lib.pow10Tab[i]'(by simpa [powD] using hi'))) := by simp [powD]
      rw [g3] at g2
      generalize us i = q at g1 g2
      cases g2
      have hq : i < arr.size := by rw [h4]; exact hi'
      simp only [World.cell?, h3, Nat.zero_add, Array.getElem?_eq_getElem hq, Option.some.injEq] at g1
      simp
      injection g1
theorem itoa_m {G : Nat → Option (List D)} (hG : G 2 = some powD) (n : Nat) (hn : n ≤ 9223372036854775807) : Spec Tryz.prog G 93 [.c (.v (.int .i64 n))] (.one (.c (.v (.string ⟨(dec n).toArray⟩)))) := by
  intro w S vs hS hT hA
  obtain ⟨hl, hc⟩ := hA
  match vs, hl with
  | [u], _ =>
    obtain rfl : u = .int .i64 n := by
      have h := hc 0 _ _ rfl rfl
      have h : RD w S (.v (.int .i64 n)) u := h
      cases h
      rfl
    refine Calls.mono (Tryz.strconv_Itoa n (by omega) (by omega) w (tab_is (hT _ _ hG))) ?_
    rintro e w1 ⟨rfl, k, os, rfl⟩
    rw [itoa_libM]
    have hB := Lib.below_grow w.heap.size w (Nat.le_refl _) k os
    exact ⟨⟨hB.os, hB.tape, hB.output, hB.size, fun k hk _ => hB.block k hk⟩, _, rfl, .v _ rfl⟩
theorem putlen_m {G : Nat → Option (List D)} (hG : G 2 = some powD) (n : Nat) (hn : n ≤ 9223372036854775807) : Spec Tryz.prog G 81 [.c (.v (.int .i64 n))] (.one (.c (.v (.string ⟨(dec n).toArray⟩)))) := by
  refine spec_of Tryz.func81 rfl rfl rfl (by kernel_rfl) rfl fun K => ?_
  (repeat' (first | with_reducible (first | refine zA fun Kn hK => ?_ | refine zB (by kernel_rfl) ?_ | refine Nx.go ?_ | go_step) | (refine ⟨_, itoa_m hG n hn, ?_⟩) | with_reducible (first | refine zI ?_ | refine zJ ?_ | refine zK ?_ ?_ | refine zL ?_ ?_ | refine zR (by kernel_rfl) ?_) | simp (maxSteps := 9999999) (disch := omega) only [wq] | (with_reducible refine zM (fun hb => ?_) (fun hb => ?_) <;> (try simp only [hb])) | (with_reducible refine And.intro (by first | omega | (simp; done) | (simp; omega)) ?_) | simp (maxSteps := 9999999) (implicitDefEqProofs := false) only [go_sem, true_and] | fail))
end Go.Proofs.YtbeghpkkpnbkgaaGreatDoor
/- What the cards' proofs share: the tables, a world for the witness, arguments opened. -/
namespace Go.Proofs.YtbeghpkkpnbkgaaGreatDoor
open Go.ChangeShapes Go.WideShapes Go.ChangeAt Go.RowKit
theorem ownK : ownKnob Tryz.prog.godebug = none := by kernel_rfl
theorem laidK : laidOutB Tryz.prog = true := by kernel_rfl
theorem gPow : Tryz.prog.globalNamed "internal/strconv.uint64pow10" = some 2 := by kernel_rfl
theorem gPowType : (Tryz.prog.globals[2]?).map (·.type) = some 156 := by kernel_rfl
/-- What the rows' list gives. -/
def laid3 : List (String × DataW Unit) := [("math/bits.deBruijn32tab", Rows.laid_math_bits_deBruijn32tab), ("math/bits.deBruijn64tab", Rows.laid_math_bits_deBruijn64tab), ("internal/strconv.uint64pow10", Rows.laid_internal_strconv_uint64pow10), ("unicode/utf8.acceptRanges", Rows.laid_unicode_utf8_acceptRanges), ("unicode/utf8.first", Rows.laid_unicode_utf8_first)]
/-- The tables, as data. -/
def tabG (g : Nat) : Option (List D) := if g = 2 then some powD else none
theorem tabG_pow : tabG 2 = some powD := rfl
theorem tab_of {w : World} (h : Lib.TabIs Tryz.prog w "internal/strconv.uint64pow10" .u64 Lib.pow10Tab) : Tab w (fun b => b < w.heap.size) 2 powD := by
  unfold Lib.TabIs World.var? at h
  rw [powG_ok, Option.bind_some] at h
  split at h
  · rename_i arr ty fz h3
    injection h with h
    subst h
    refine ⟨?_, (Array.getElem?_eq_some_iff.1 h3).1, _, _, _, h3, by simp [powD]⟩
    refine .ptr 0 _ 0 _ (fun i => ((Lib.pow10Tab.map fun z => Value.int .u64 z)[i]?).getD undef) (Array.getElem?_eq_some_iff.1 h3).1 (fun i x hx => ?_) fun i x hx => ?_
    all_goals
      simp only [powD, List.getElem?_map] at hx
      cases hq : Lib.pow10Tab[i]? with
      | none => rw [hq] at hx; cases hx
      | some z =>
        rw [hq] at hx
        have hx : some (D.v (.int .u64 z)) = some x := hx
        injection hx with hx
        subst hx
        have e : (Lib.pow10Tab.map fun z => Value.int .u64 z)[i]? = some (.int .u64 z) := by simp [hq]
        rw [e]
        first
          | exact .v _ rfl
          | (rw [Nat.zero_add]
             simp [World.cell?, h3, hq])
  · cases h
theorem tables_of_laid {W : World} (h : laidMetH Tryz.prog laid3 W) : Tables tabG W (fun b => b < W.heap.size) := by
  have h3 : laidMet Tryz.prog (("internal/strconv.uint64pow10", Lib.tabData .u64 Lib.pow10Tab) :: [("unicode/utf8.acceptRanges", Rows.laid_unicode_utf8_acceptRanges), ("unicode/utf8.first", Rows.laid_unicode_utf8_first)]) W := laidMet.tail (laidMet.tail (h))
  intro g cs hg
  unfold tabG at hg
  split at hg
  · rename_i e
    subst e
    injection hg with hg
    subst hg
    exact tab_of (Lib.tabIs_of_head (rest := [("unicode/utf8.acceptRanges", Rows.laid_unicode_utf8_acceptRanges), ("unicode/utf8.first", Rows.laid_unicode_utf8_first)]) gPow gPowType Tryz.underlying156 Tryz.underlying132 (by kernel_rfl) (by kernel_rfl) h3)
  · cases hg
def laidAt (k : IntKind) (zs : List Int) : Obj → Obj
  | .cells _ t frozen => .cells (zs.map fun z => .int k z).toArray t frozen
  | o => o
def ints {H : Type} : DataW H → List Int
  | .agg l => l.flatMap fun
    | .lit (.int _ z) => [z]
    | .agg m => m.map fun | .lit (.int _ z) => z | _ => 0
    | _ => [0]
  | _ => []
noncomputable def laidWorld (os : Os) : World :=
  { World.holding Tryz.prog os ⟨#[], #[], []⟩ with heap := ((((((World.holding Tryz.prog os ⟨#[], #[], []⟩).heap).modify 5 (laidAt .u8 (ints (H := Unit) Rows.laid_math_bits_deBruijn32tab))).modify 6 (laidAt .u8 (ints (H := Unit) Rows.laid_math_bits_deBruijn64tab))).modify 2 (laidAt .u64 (ints (H := Unit) Rows.laid_internal_strconv_uint64pow10))).modify 4 (laidAt .u8 (ints (H := Unit) Rows.laid_unicode_utf8_acceptRanges))).modify 3 (laidAt .u8 (ints (H := Unit) Rows.laid_unicode_utf8_first)) }
theorem laid_met (os : Os) (args : Array Value) : laidMet Tryz.prog laid3 ((laidWorld os).forCall (fun _ _ => 0) ⟨#[], args, []⟩).memory :=
  laidMet_of_run' 8 (by kernel_rfl) (by kernel_rfl)
theorem opens_sexp (fuel : Nat) : OpensN Tryz.prog fuel 27 Rep.tree Tree.wt :=
  opensN_tree Tryz.underlying27 (by kernel_rfl) (by kernel_rfl) Tryz.underlying4 Tryz.underlying24 Tryz.underlying5 Tryz.underlying25 (by kernel_rfl) (by kernel_rfl) (by kernel_rfl) (by kernel_rfl) fuel
theorem bulk_le {H : Type} {l : List (DataW H)} (hk : Rows.uptoSmall H l = true) : Rows.uptoBulkAll l ≤ 1048576 := of_decide_eq_true hk
end Go.Proofs.YtbeghpkkpnbkgaaGreatDoor
/- Tags, and how they lie in memory. -/
namespace Go.Proofs.YtbeghpkkpnbkgaaGreatDoor
open Go.RowKit
/-- A range's end. -/
structure Bd where
  is : Bool
  opn : Bool
  txt : List UInt8
deriving DecidableEq
/-- A tag. -/
inductive Tg where
  | mk (kind : UInt8) (data : List UInt8) (kids : List Tg) (ord : UInt8) (lo hi : Bd)
def Tg.kind : Tg → UInt8 | .mk k _ _ _ _ _ => k
def Tg.data : Tg → List UInt8 | .mk _ d _ _ _ _ => d
def Tg.kids : Tg → List Tg | .mk _ _ k _ _ _ => k
def Tg.ord : Tg → UInt8 | .mk _ _ _ o _ _ => o
def Tg.lo : Tg → Bd | .mk _ _ _ _ b _ => b
def Tg.hi : Tg → Bd | .mk _ _ _ _ _ b => b
theorem Tg.kid_lt {t x : Tg} (h : x ∈ t.kids) : SizeOf.sizeOf x < SizeOf.sizeOf t := by
  cases t
  have := List.sizeOf_lt_of_mem h
  simp only [Tg.kids] at this
  simp only [Tg.mk.sizeOf_spec]
  omega
theorem Tg.ind {P : Tg → Prop} (h : ∀ t, (∀ x ∈ t.kids, P x) → P t) (t : Tg) : P t :=
  h t fun x hx => Tg.ind h x
termination_by SizeOf.sizeOf t
decreasing_by exact Tg.kid_lt hx
def u8V (x : UInt8) : Value := .int .u8 (x.toNat : Int)
/-- How a tag lies in memory: ten cells, and what they lead to. -/
def Tg.rd (w : World) (S : Nat → Prop) (cs : List Value) (t : Tg) : Prop :=
  ∃ A1 n1 c1 A2 n2 c2 A3 n3 c3 A4 n4 c4, cs = [u8V t.kind, .slice A1 n1 c1, .slice A2 n2 c2, u8V t.ord, .bool t.lo.is, .bool t.lo.opn, .slice A3 n3 c3, .bool t.hi.is, .bool t.hi.opn, .slice A4 n4 c4] ∧ Rep.u8.sl w S A1 n1 c1 t.data ∧ Rep.u8.sl w S A3 n3 c3 t.lo.txt ∧ Rep.u8.sl w S A4 n4 c4 t.hi.txt ∧
    t.kids.length = n2 ∧ n2 ≤ c2 ∧ c2 ≤ 9223372036854775807 ∧ (0 < n2 → ∃ b o, A2 = some ⟨b, o, none⟩ ∧ S b ∧
      ∀ i x, (hx : t.kids[i]? = some x) → ∃ es, Tg.rd w S es x ∧ ∀ j u, es[j]? = some u → w.cell? ⟨b, o + i * 10 + j, none⟩ = some u)
termination_by SizeOf.sizeOf t
decreasing_by exact Tg.kid_lt (List.mem_of_getElem? hx)
theorem Tg.rd_len {w : World} {S : Nat → Prop} {cs : List Value} {t : Tg} (h : Tg.rd w S cs t) : cs.length = 10 := by
  rw [Tg.rd] at h
  obtain ⟨_, _, _, _, _, _, _, _, _, _, _, _, rfl, _⟩ := h
  rfl
theorem Tg.rd_keep {w w' : World} {S : Nat → Prop} (hk : ∀ p : Addr, S p.block → w'.cell? p = w.cell? p) : ∀ (t : Tg) {cs : List Value}, Tg.rd w S cs t → Tg.rd w' S cs t := by
  refine Tg.ind fun t ih cs h => ?_
  rw [Tg.rd] at h ⊢
  obtain ⟨A1, n1, c1, A2, n2, c2, A3, n3, c3, A4, n4, c4, rfl, h1, h2, h7, h3, h4, h5, h6⟩ := h
  refine ⟨A1, n1, c1, A2, n2, c2, A3, n3, c3, A4, n4, c4, rfl, Rep.sl_keep h1 hk, Rep.sl_keep h2 hk, Rep.sl_keep h7 hk, h3, h4, h5, fun hn => ?_⟩
  obtain ⟨b, o, rfl, hb, hr⟩ := h6 hn
  refine ⟨b, o, rfl, hb, fun i x hx => ?_⟩
  obtain ⟨es, he, hc⟩ := hr i x hx
  exact ⟨es, ih x (List.mem_of_getElem? hx) he, fun j u hu => by rw [hk _ hb]; exact hc j u hu⟩
theorem Tg.rd_more {w : World} {S S' : Nat → Prop} (hS : ∀ b, S b → S' b) : ∀ (t : Tg) {cs : List Value}, Tg.rd w S cs t → Tg.rd w S' cs t := by
  refine Tg.ind fun t ih cs h => ?_
  rw [Tg.rd] at h ⊢
  obtain ⟨A1, n1, c1, A2, n2, c2, A3, n3, c3, A4, n4, c4, rfl, h1, h2, h7, h3, h4, h5, h6⟩ := h
  refine ⟨A1, n1, c1, A2, n2, c2, A3, n3, c3, A4, n4, c4, rfl, Rep.sl_more h1 hS, Rep.sl_more h2 hS, Rep.sl_more h7 hS, h3, h4, h5, fun hn => ?_⟩
  obtain ⟨b, o, rfl, hb, hr⟩ := h6 hn
  refine ⟨b, o, rfl, hS _ hb, fun i x hx => ?_⟩
  obtain ⟨es, he, hc⟩ := hr i x hx
  exact ⟨es, ih x (List.mem_of_getElem? hx) he, hc⟩
def Rep.tag : Rep Tg where
  size := 10
  pos := by omega
  rd := Tg.rd
  len := Tg.rd_len
  keep := fun h hk => Tg.rd_keep hk _ h
  more := fun h hS => Tg.rd_more hS _ h
  one := fun h u hu => by
    rw [Tg.rd] at h
    obtain ⟨_, _, _, _, _, _, _, _, _, _, _, _, rfl, _⟩ := h
    simp only [List.mem_cons, List.not_mem_nil, or_false] at hu
    rcases hu with rfl | rfl | rfl | rfl | rfl | rfl | rfl | rfl | rfl | rfl <;> rfl
/-- How much a tag holds. -/
def Tg.wt (t : Tg) : Nat := 1 + t.data.length + t.lo.txt.length + t.hi.txt.length + (t.kids.attach.map fun x => Tg.wt x.1).sum
termination_by SizeOf.sizeOf t
decreasing_by exact Tg.kid_lt x.2
theorem Tg.wt_eq (t : Tg) : t.wt = 1 + t.data.length + t.lo.txt.length + t.hi.txt.length + (t.kids.map Tg.wt).sum := by
  rw [Tg.wt]
  congr 2
  simp
theorem tsum_mem {l : List Tg} {x : Tg} (f : Tg → Nat) (h : x ∈ l) : f x ≤ (l.map f).sum := by
  induction l with
  | nil => cases h
  | cons y l ih =>
    simp only [List.map_cons, List.sum_cons]
    rcases List.mem_cons.1 h with rfl | h
    · omega
    · have := ih h; omega
theorem Tg.wt_kid {t x : Tg} (h : x ∈ t.kids) : x.wt < t.wt := by
  rw [Tg.wt_eq t]
  have := tsum_mem Tg.wt h
  omega
theorem Tg.wt_kids (t : Tg) : t.kids.length ≤ t.wt := by
  rw [Tg.wt_eq t]
  have : ∀ l : List Tg, l.length ≤ (l.map Tg.wt).sum := by
    intro l
    induction l with
    | nil => simp
    | cons y l ih =>
      have : 1 ≤ y.wt := by rw [Tg.wt_eq]; omega
      simp only [List.map_cons, List.sum_cons, List.length_cons]
      omega
  have := this t.kids
  omega
end Go.Proofs.YtbeghpkkpnbkgaaGreatDoor
/- What lies at a struct's fields. -/
namespace Go.Proofs.YtbeghpkkpnbkgaaGreatDoor
open Go.RowKit Go.ChangeShapes Go.WideShapes Go.Deep
section
variable {P : Program} {t e : TypeId}
/-- What lies at a field. -/
theorem field_at {H : Type} {enc : TypeId × Value → H} {w : World} {sp : Nat → Bool} {held : Bool} {n : Nat} {cs : List Value} {x : DataW H × List MemPlace} {fs : Array Field} (ht : P.underlying t = some (.struct fs)) (h : DataW.trod enc P w 0 sp held n t cs = some x) {L : List (Nat × Nat)} (hf : fs.toList.map (fun f => (f.type, f.offset)) = L) :
    ∃ (m : Nat) (xs : List (DataW H × List MemPlace)), n = m + 1 ∧ x.1 = .agg (xs.map (·.1)) ∧ xs.length = L.length ∧ cs.length = P.cellsOf t ∧ ∀ (i : Nat) (p : Nat × Nat) y, L[i]? = some p → xs[i]? = some y → DataW.trod enc P w 0 sp held m p.1 ((cs.drop p.2).take (P.cellsOf p.1)) = some y := by
  obtain ⟨xs, m, rfl, rfl, hcl, hlx, hg⟩ := DataW.trod_struct ht h
  refine ⟨m, xs, rfl, rfl, by rw [hlx, ← hf, List.length_map, Array.length_toList], hcl, fun i p y hp hy => ?_⟩
  rw [← hf, List.getElem?_map, Option.map_eq_some_iff] at hp
  obtain ⟨f, h1, rfl⟩ := hp
  have h1' : fs[i]? = some f := by simpa using h1
  rw [hg i f h1', hy]
theorem bytes_at {H : Type} {enc : TypeId × Value → H} {w : World} {sp : Nat → Bool} {held : Bool} {n : Nat} {cs : List Value} {x : DataW H × List MemPlace} {tB ty : TypeId} (hB : P.underlying tB = some (.slice ty)) (hy : P.underlying ty = some (.int .u8)) (cy : P.cellsOf ty = 1) (h : DataW.trod enc P w 0 sp held n tB cs = some x) :
    ∃ (y : List UInt8) (A : Option Addr) (k c : Nat), cs = [.slice A k c] ∧ Rep.u8.sl w (fun b => b < w.heap.size) A k c y ∧ y.length + 1 ≤ Rows.uptoBulk x.1 := by
  obtain ⟨y, ⟨A, k, c, q, s⟩, hw⟩ := opensN_slice (r := Rep.u8) (wt := fun _ => 1) n hB cy (fun m _ => opensN_u8 m hy cy) _ _ _ _ _ _ _ h
  simp only [sum_ones] at hw
  exact ⟨y, A, k, c, q, s, hw⟩
end
end Go.Proofs.YtbeghpkkpnbkgaaGreatDoor
/- From the form's reading of a tag to a tag, with what it holds. -/
namespace Go.Proofs.YtbeghpkkpnbkgaaGreatDoor
open Go.RowKit Go.ChangeShapes Go.WideShapes Go.Deep
section
variable {P : Program} {t e : TypeId}
theorem open_u8 {H : Type} {enc : TypeId × Value → H} {w : World} {sp : Nat → Bool} {held : Bool} {n : Nat} {cs : List Value} {x : DataW H × List MemPlace} {ty : TypeId} (hy : P.underlying ty = some (.int .u8)) (h : DataW.trod enc P w 0 sp held n ty cs = some x) : ∃ b : UInt8, cs = [u8V b] := by
  obtain ⟨z, hz, _, hw⟩ := DataW.trod_int hy h
  have hb : 0 ≤ z ∧ z ≤ 255 := bounds_u8 hw
  refine ⟨UInt8.ofNat z.toNat, ?_⟩
  rw [hz, u8V, UInt8.toNat_ofNat_of_lt' (by simp only [UInt8.size]; omega)]
  congr 2
  omega
/-- An end. -/
theorem end_at {H : Type} {enc : TypeId × Value → H} {w : World} {sp : Nat → Bool} {held : Bool} {n : Nat} {cs : List Value} {x : DataW H × List MemPlace} {tE tb tB ty : TypeId} {fs : Array Field} (ht : P.underlying tE = some (.struct fs)) (hf : fs.toList.map (fun f => (f.type, f.offset)) = [(tb, 0), (tb, 1), (tB, 2)]) (hc : P.cellsOf tE = 3) (hb : P.underlying tb = some .bool) (cb : P.cellsOf tb = 1)
    (hB : P.underlying tB = some (.slice ty)) (cB : P.cellsOf tB = 1) (hy : P.underlying ty = some (.int .u8)) (cy : P.cellsOf ty = 1) (h : DataW.trod enc P w 0 sp held n tE cs = some x) :
    ∃ (b : Bd) (A : Option Addr) (k c : Nat), cs = [.bool b.is, .bool b.opn, .slice A k c] ∧ Rep.u8.sl w (fun b => b < w.heap.size) A k c b.txt ∧ b.txt.length ≤ Rows.uptoBulk x.1 := by
  obtain ⟨m, xs, _, hx, hl, hcl, hg⟩ := field_at ht h hf
  rw [hc] at hcl
  match xs, hl, cs, hcl with
  | [x0, x1, x2], _, [c0, c1, c2], _ =>
    have e0 := hg 0 _ _ rfl rfl
    have e1 := hg 1 _ _ rfl rfl
    have e2 := hg 2 _ _ rfl rfl
    dsimp only at e0 e1 e2
    rw [cb] at e0 e1
    rw [cB] at e2
    obtain ⟨b0, q0, _⟩ := DataW.trod_bool hb e0
    obtain ⟨b1, q1, _⟩ := DataW.trod_bool hb e1
    obtain ⟨y, A, k, c, q2, s, hw⟩ := bytes_at hB hy cy e2
    simp only [List.drop_zero, List.drop_succ_cons, List.take_succ_cons, List.take_zero, List.cons.injEq, and_true] at q0 q1 q2
    subst q0 q1 q2
    refine ⟨⟨b0, b1, y⟩, A, k, c, rfl, s, ?_⟩
    rw [hx]
    simp only [Rows.uptoBulk, Rows.uptoBulkAll, List.map_cons, List.map_nil]
    omega
/-- A value of type Tag is a tag. -/
theorem opensN_tag {tk tB tl tR tE tb ty : TypeId} {fs fr fe : Array Field} (ht : P.underlying t = some (.struct fs)) (hf : fs.toList.map (fun f => (f.type, f.offset)) = [(tk, 0), (tB, 1), (tl, 2), (tR, 3)]) (hc : P.cellsOf t = 10)
    (hr : P.underlying tR = some (.struct fr)) (hfr : fr.toList.map (fun f => (f.type, f.offset)) = [(tk, 0), (tE, 1), (tE, 4)]) (cR : P.cellsOf tR = 7)
    (he : P.underlying tE = some (.struct fe)) (hfe : fe.toList.map (fun f => (f.type, f.offset)) = [(tb, 0), (tb, 1), (tB, 2)]) (cE : P.cellsOf tE = 3)
    (hk : P.underlying tk = some (.int .u8)) (ck : P.cellsOf tk = 1) (hb : P.underlying tb = some .bool) (hB : P.underlying tB = some (.slice ty)) (hy : P.underlying ty = some (.int .u8)) (hl : P.underlying tl = some (.slice t))
    (cb : P.cellsOf tb = 1) (cB : P.cellsOf tB = 1) (cy : P.cellsOf ty = 1) (cl : P.cellsOf tl = 1) : ∀ fuel, OpensN P fuel t Rep.tag Tg.wt := by
  intro fuel
  induction fuel using Nat.strongRecOn with
  | _ fuel ih =>
  intro H enc w sp held cs x h
  obtain ⟨m, xs, rfl, hx, hlx, hcl, hg⟩ := field_at ht h hf
  rw [hc] at hcl
  match xs, hlx, cs, hcl with
  | [x0, x1, x2, x3], _, [c0, c1, c2, c3, c4, c5, c6, c7, c8, c9], _ =>
    have e0 := hg 0 _ _ rfl rfl
    have e1 := hg 1 _ _ rfl rfl
    have e2 := hg 2 _ _ rfl rfl
    have e3 := hg 3 _ _ rfl rfl
    dsimp only at e0 e1 e2 e3
    rw [ck] at e0
    rw [cB] at e1
    rw [cl] at e2
    rw [cR] at e3
    obtain ⟨k0, q0⟩ := open_u8 hk e0
    obtain ⟨y1, A1, n1, k1, q1, s1, w1⟩ := bytes_at hB hy cy e1
    obtain ⟨y2, ⟨A2, n2, k2, q2, s2⟩, w2⟩ := opensN_slice (r := Rep.tag) (wt := Tg.wt) m hl hc (fun j hj => ih j (by omega)) _ _ _ _ _ _ _ e2
    obtain ⟨m3, zs, _, hz, hlz, hcz, hgz⟩ := field_at hr e3 hfr
    simp only [List.drop_zero, List.drop_succ_cons, List.take_succ_cons, List.take_zero, List.cons.injEq, and_true] at q0 q1 q2 hgz
    match zs, hlz with
    | [z0, z1, z2], _ =>
      have g0 := hgz 0 _ _ rfl rfl
      have g1 := hgz 1 _ _ rfl rfl
      have g2 := hgz 2 _ _ rfl rfl
      dsimp only at g0 g1 g2
      rw [ck] at g0
      rw [cE] at g1 g2
      obtain ⟨o0, p0⟩ := open_u8 hk g0
      obtain ⟨b1, B1, l1, j1, p1, t1, v1⟩ := end_at he hfe cE hb cb hB cB hy cy g1
      obtain ⟨b2, B2, l2, j2, p2, t2, v2⟩ := end_at he hfe cE hb cb hB cB hy cy g2
      simp only [List.drop_zero, List.drop_succ_cons, List.take_succ_cons, List.take_zero, List.cons.injEq, and_true] at p0 p1 p2
      obtain ⟨p1a, p1b, p1c⟩ := p1
      obtain ⟨p2a, p2b, p2c⟩ := p2
      subst q0 q1 q2 p0 p1a p1b p1c p2a p2b p2c
      refine ⟨.mk k0 y1 y2 o0 b1 b2, ?_, ?_⟩
      · show Tg.rd w _ _ (.mk k0 y1 y2 o0 b1 b2)
        rw [Tg.rd]
        exact ⟨A1, n1, k1, A2, n2, k2, B1, l1, j1, B2, l2, j2, rfl, s1, t1, t2, s2.1, s2.2.1, s2.2.2.1, s2.2.2.2⟩
      · rw [Tg.wt_eq, hx]
        simp only [Rows.uptoBulk, Rows.uptoBulkAll, List.map_cons, List.map_nil, Tg.data, Tg.kids, Tg.lo, Tg.hi]
        have w2' : (y2.map Tg.wt).sum + 1 ≤ Rows.uptoBulk x2.1 := w2
        have v3 : b1.txt.length + b2.txt.length ≤ Rows.uptoBulk x3.1 := by
          rw [hz]
          simp only [Rows.uptoBulk, Rows.uptoBulkAll, List.map_cons, List.map_nil]
          omega
        omega
end
end Go.Proofs.YtbeghpkkpnbkgaaGreatDoor
/- Dates: years, months, digits. -/
namespace Go.Proofs.YtbeghpkkpnbkgaaGreatDoor
open Go.RowKit
def iD (n : Nat) : DV := .c (.v (.int .i64 (n : Int)))
def longB (y : Nat) : Bool := decide (y % 4 = 0) && (!decide (y % 100 = 0) || decide (y % 400 = 0))
def daysN (y m : Nat) : Nat := if m = 2 then (if longB y = true then 29 else 28) else if m = 4 ∨ m = 6 ∨ m = 9 ∨ m = 11 then 30 else 31
theorem tm (y k : Nat) : (y : Int).tmod (k : Int) = ((y % k : Nat) : Int) := by rw [Int.tmod_eq_emod_of_nonneg (by omega)]; rfl
theorem tq (y k : Nat) : (y : Int).tdiv (k : Int) = ((y / k : Nat) : Int) := by rw [Int.tdiv_eq_ediv_of_nonneg (by omega)]; rfl
theorem nbeq (a b : Nat) : (((a : Int)) == ((b : Int))) = decide (a = b) := by rw [Bool.eq_iff_iff]; simp [Int.ofNat_inj]
section
variable {G : Nat → Option (List D)}
theorem long_m (y : Nat) : Spec Tryz.prog G 139 [iD y] (.one (.c (.v (.bool (longB y))))) := by
  have t4 : (y : Int).tmod 4 = ((y % 4 : Nat) : Int) := tm y 4
  have t100 : (y : Int).tmod 100 = ((y % 100 : Nat) : Int) := tm y 100
  have t400 : (y : Int).tmod 400 = ((y % 400 : Nat) : Int) := tm y 400
  have e4 : (((y % 4 : Nat) : Int) == 0) = decide (y % 4 = 0) := nbeq _ 0
  have e100 : (((y % 100 : Nat) : Int) == 0) = decide (y % 100 = 0) := nbeq _ 0
  have e400 : (((y % 400 : Nat) : Int) == 0) = decide (y % 400 = 0) := nbeq _ 0
  unfold longB iD
  generalize decide (y % 4 = 0) = p at *
  generalize decide (y % 100 = 0) = q at *
  generalize decide (y % 400 = 0) = r at *
  refine spec_of Tryz.func139 rfl rfl rfl (by kernel_rfl) rfl fun K => ?_
  (repeat' (first | with_reducible (first | refine zA fun Kn hK => ?_ | refine zB (by kernel_rfl) ?_ | refine Nx.go ?_ | go_step) | fail | with_reducible (first | refine zI ?_ | refine zJ ?_ | refine zK ?_ ?_ | refine zL ?_ ?_ | refine zR (by kernel_rfl) ?_) | simp (maxSteps := 9999999) (disch := omega) only [wq] | (with_reducible refine zM (fun hb => ?_) (fun hb => ?_) <;> (try simp only [hb])) | (with_reducible refine And.intro (by first | omega | (simp; done) | (simp; omega)) ?_) | simp (maxSteps := 9999999) (implicitDefEqProofs := false) only [go_sem, t4, t100, t400, e4, e100, e400, bne] | fail))
  all_goals simp_all
theorem days_m (y m : Nat) : Spec Tryz.prog G 123 [iD y, iD m] (.one (iD (daysN y m))) := by
  have h2 : ((m : Int) == 2) = decide (m = 2) := nbeq m 2
  have h4 : ((m : Int) == 4) = decide (m = 4) := nbeq m 4
  have h6 : ((m : Int) == 6) = decide (m = 6) := nbeq m 6
  have h9 : ((m : Int) == 9) = decide (m = 9) := nbeq m 9
  have h11 : ((m : Int) == 11) = decide (m = 11) := nbeq m 11
  unfold daysN iD
  by_cases c2 : m = 2
  · rw [decide_eq_true c2] at h2
    rw [if_pos c2]
    cases hl : longB y
    all_goals
      have hl' := long_m (G := G) y
      rw [hl] at hl'
    · refine spec_of Tryz.func123 rfl rfl rfl (by kernel_rfl) rfl fun K => ?_
      (repeat' (first | with_reducible (first | refine zA fun Kn hK => ?_ | refine zB (by kernel_rfl) ?_ | refine Nx.go ?_ | go_step) | (refine ⟨_, hl', ?_⟩) | with_reducible (first | refine zI ?_ | refine zJ ?_ | refine zK ?_ ?_ | refine zL ?_ ?_ | refine zR (by kernel_rfl) ?_) | simp (maxSteps := 9999999) (disch := omega) only [wq] | (with_reducible refine zM (fun hb => ?_) (fun hb => ?_) <;> (try simp only [hb])) | (with_reducible refine And.intro (by first | omega | (simp; done) | (simp; omega)) ?_) | simp (maxSteps := 9999999) (implicitDefEqProofs := false) only [go_sem, h2] | fail))
      try rfl
    · refine spec_of Tryz.func123 rfl rfl rfl (by kernel_rfl) rfl fun K => ?_
      (repeat' (first | with_reducible (first | refine zA fun Kn hK => ?_ | refine zB (by kernel_rfl) ?_ | refine Nx.go ?_ | go_step) | (refine ⟨_, hl', ?_⟩) | with_reducible (first | refine zI ?_ | refine zJ ?_ | refine zK ?_ ?_ | refine zL ?_ ?_ | refine zR (by kernel_rfl) ?_) | simp (maxSteps := 9999999) (disch := omega) only [wq] | (with_reducible refine zM (fun hb => ?_) (fun hb => ?_) <;> (try simp only [hb])) | (with_reducible refine And.intro (by first | omega | (simp; done) | (simp; omega)) ?_) | simp (maxSteps := 9999999) (implicitDefEqProofs := false) only [go_sem, h2] | fail))
      try rfl
  · have f2 := decide_eq_false c2
    rw [f2] at h2
    rw [if_neg c2]
    generalize g4 : decide (m = 4) = p4 at *
    generalize g6 : decide (m = 6) = p6 at *
    generalize g9 : decide (m = 9) = p9 at *
    generalize g11 : decide (m = 11) = p11 at *
    refine spec_of Tryz.func123 rfl rfl rfl (by kernel_rfl) rfl fun K => ?_
    (repeat' (first | with_reducible (first | refine zA fun Kn hK => ?_ | refine zB (by kernel_rfl) ?_ | refine Nx.go ?_ | go_step) | fail | with_reducible (first | refine zI ?_ | refine zJ ?_ | refine zK ?_ ?_ | refine zL ?_ ?_ | refine zR (by kernel_rfl) ?_) | simp (maxSteps := 9999999) (disch := omega) only [wq] | (with_reducible refine zM (fun hb => ?_) (fun hb => ?_) <;> (try simp only [hb])) | (with_reducible refine And.intro (by first | omega | (simp; done) | (simp; omega)) ?_) | simp (maxSteps := 9999999) (implicitDefEqProofs := false) only [go_sem, h2, h4, h6, h9, h11] | fail))
    all_goals simp_all
/-- Days ahead of a year. -/
def aheadN (y : Nat) : Nat := y * 365 + (if y = 0 then 0 else (y - 1) / 4 - (y - 1) / 100 + (y - 1) / 400 + 1)
theorem ahead_m (y : Nat) (hy : y ≤ 10000) : Spec Tryz.prog G 124 [iD y] (.one (iD (aheadN y))) := by
  unfold aheadN iD
  by_cases h0 : y = 0
  · have h : decide ((y : Int) > 0) = false := decide_eq_false (by omega)
    subst h0
    refine spec_of Tryz.func124 rfl rfl rfl (by kernel_rfl) rfl fun K => ?_
    (repeat' (first | with_reducible (first | refine zA fun Kn hK => ?_ | refine zB (by kernel_rfl) ?_ | refine Nx.go ?_ | go_step) | fail | with_reducible (first | refine zI ?_ | refine zJ ?_ | refine zK ?_ ?_ | refine zL ?_ ?_ | refine zR (by kernel_rfl) ?_) | simp (maxSteps := 9999999) (disch := omega) only [wq] | (with_reducible refine zM (fun hb => ?_) (fun hb => ?_) <;> (try simp only [hb])) | (with_reducible refine And.intro (by first | omega | (simp; done) | (simp; omega)) ?_) | simp (maxSteps := 9999999) (implicitDefEqProofs := false) only [go_sem, h] | fail))
    try rfl
  · have h : decide ((y : Int) > 0) = true := decide_eq_true (by omega)
    have e : (y : Int) - 1 = ((y - 1 : Nat) : Int) := by omega
    have q4 : ((y - 1 : Nat) : Int).tdiv 4 = (((y - 1) / 4 : Nat) : Int) := tq _ 4
    have q100 : ((y - 1 : Nat) : Int).tdiv 100 = (((y - 1) / 100 : Nat) : Int) := tq _ 100
    have q400 : ((y - 1 : Nat) : Int).tdiv 400 = (((y - 1) / 400 : Nat) : Int) := tq _ 400
    rw [if_neg h0]
    refine spec_of Tryz.func124 rfl rfl rfl (by kernel_rfl) rfl fun K => ?_
    (repeat' (first | with_reducible (first | refine zA fun Kn hK => ?_ | refine zB (by kernel_rfl) ?_ | refine Nx.go ?_ | go_step) | fail | with_reducible (first | refine zI ?_ | refine zJ ?_ | refine zK ?_ ?_ | refine zL ?_ ?_ | refine zR (by kernel_rfl) ?_) | simp (maxSteps := 9999999) (disch := omega) only [wq] | (with_reducible refine zM (fun hb => ?_) (fun hb => ?_) <;> (try simp only [hb])) | (with_reducible refine And.intro (by first | omega | (simp; done) | (simp; omega)) ?_) | simp (maxSteps := 9999999) (implicitDefEqProofs := false) only [go_sem, h, e, q4, q100, q400] | fail))
    congr 4
    omega
/-- The number that digits are. -/
def isDg (c : UInt8) : Bool := decide (48 ≤ c.toNat ∧ c.toNat ≤ 57)
def numV (l : List UInt8) : Nat := l.foldl (fun n c => 10 * n + (c.toNat - 48)) 0
theorem numV_take {l : List UInt8} {k : Nat} {x : UInt8} (h : l[k]? = some x) : numV (l.take (k + 1)) = 10 * numV (l.take k) + (x.toNat - 48) := by
  unfold numV
  rw [List.take_add_one, h, List.foldl_append]
  rfl
theorem numV_lt : ∀ (l : List UInt8), (∀ c ∈ l, isDg c = true) → numV l < 10 ^ l.length := by
  intro l h
  have key : ∀ (l : List UInt8) (n k : Nat), (∀ c ∈ l, isDg c = true) → n < 10 ^ k → l.foldl (fun n c => 10 * n + (c.toNat - 48)) n < 10 ^ (k + l.length) := by
    intro l
    induction l with
    | nil => intro n k _ h; exact h
    | cons c l ih =>
      intro n k hd hn
      have hc : 48 ≤ c.toNat ∧ c.toNat ≤ 57 := of_decide_eq_true (hd c (by simp))
      have h2 := ih (10 * n + (c.toNat - 48)) (k + 1) (fun x hx => hd x (by simp [hx])) (by rw [Nat.pow_succ]; omega)
      rw [List.foldl_cons, List.length_cons]
      have e : k + 1 + l.length = k + (l.length + 1) := by omega
      rw [e] at h2
      exact h2
  have := key l 0 0 h (by decide)
  rw [Nat.zero_add] at this
  exact this
theorem digits_m (b : List UInt8) (n : Nat) (lb : b.length = n) (hn : n ≤ 9) (hb : ∀ c ∈ b, isDg c = true) : Spec Tryz.prog G 119 [.c (.sl n (b.map bD))] (.one (iD (numV b))) := by
  unfold iD
  refine spec_of Tryz.func119 rfl rfl rfl (by kernel_rfl) rfl fun K => ?_
  (repeat' (first | with_reducible (first | refine zA fun Kn hK => ?_ | refine zB (by kernel_rfl) ?_ | refine Nx.go ?_ | go_step) | fail | with_reducible (first | refine zI ?_ | refine zJ ?_ | refine zK ?_ ?_ | refine zL ?_ ?_ | refine zR (by kernel_rfl) ?_) | simp (maxSteps := 9999999) (disch := omega) only [wq] | (with_reducible refine zM (fun hb => ?_) (fun hb => ?_) <;> (try simp only [hb])) | (with_reducible refine And.intro (by first | omega | (simp; done) | (simp; omega)) ?_) | simp (maxSteps := 9999999) (implicitDefEqProofs := false) only [go_sem, true_and] | fail))
  refine sound_loopR (fun x : {m : Nat // m ≤ n} => ⟨[(0, vD (.sl n (b.map bD))), (3, vI (numV (b.take x.1))), (6, vD (.sl n (b.map bD))), (7, vI n), (8, vI x.1)], []⟩) (fun x => n - x.1) ⟨0, by omega⟩ [] (by (iterate 2 ((try simp (maxSteps := 9999999) (implicitDefEqProofs := false) only [go_sem, true_and]); (try simp (maxSteps := 9999999) (disch := omega) only [wq]))); try simp [numV]) (fun ⟨m, hm⟩ => ?_)
  by_cases h : m < n
  · have h1 : decide ((m : Int) < (n : Int)) = true := decide_eq_true (by omega)
    obtain ⟨x, hx⟩ : ∃ x, b[m]? = some x := ⟨_, List.getElem?_eq_getElem (by omega)⟩
    have hg : (b.map bD)[m]? = some (bD x) := by rw [List.getElem?_map, hx]; rfl
    have hd : 48 ≤ x.toNat ∧ x.toNat ≤ 57 := of_decide_eq_true (hb x (List.mem_of_getElem? hx))
    have hv := numV_take hx
    have hlt := numV_lt (b.take (m + 1)) (fun c hc => hb c (List.mem_of_mem_take hc))
    have hp : 10 ^ (b.take (m + 1)).length ≤ 10 ^ 9 := Nat.pow_le_pow_right (by omega) (by rw [List.length_take]; omega)
    have hs : numV (b.take (m + 1)) < 1000000000 := Nat.lt_of_lt_of_le hlt hp
    (repeat' (first | with_reducible (first | refine zA fun Kn hK => ?_ | refine zB (by kernel_rfl) ?_ | refine Nx.go ?_ | go_step) | fail | with_reducible (first | refine zI ?_ | refine zJ ?_ | refine zK ?_ ?_ | refine zL ?_ ?_ | refine zR (by kernel_rfl) ?_) | simp (maxSteps := 9999999) (disch := omega) only [wq] | (with_reducible refine zM (fun hb => ?_) (fun hb => ?_) <;> (try simp only [hb])) | (with_reducible refine And.intro (by first | omega | (simp; done) | (simp; omega)) ?_) | simp (maxSteps := 9999999) (implicitDefEqProofs := false) only [go_sem, h1, hg, bD, List.length_map, lb] | fail))
    refine ⟨[], ⟨m + 1, by omega⟩, ?_⟩
    (iterate 2 ((try simp (maxSteps := 9999999) (implicitDefEqProofs := false) only [go_sem, true_and, hv]); (try simp (maxSteps := 9999999) (disch := omega) only [wq])))
    try (simp only [ijq, true_and, and_true]; first | done | omega | (split <;> omega) | (simp; done) | (simp; omega))
    try omega
  · have h1 : decide ((m : Int) < (n : Int)) = false := decide_eq_false (by omega)
    have e : b.take m = b := List.take_of_length_le (by omega)
    (repeat' (first | with_reducible (first | refine zA fun Kn hK => ?_ | refine zB (by kernel_rfl) ?_ | refine Nx.go ?_ | go_step) | fail | with_reducible (first | refine zI ?_ | refine zJ ?_ | refine zK ?_ ?_ | refine zL ?_ ?_ | refine zR (by kernel_rfl) ?_) | simp (maxSteps := 9999999) (disch := omega) only [wq] | (with_reducible refine zM (fun hb => ?_) (fun hb => ?_) <;> (try simp only [hb])) | (with_reducible refine And.intro (by first | omega | (simp; done) | (simp; omega)) ?_) | simp (maxSteps := 9999999) (implicitDefEqProofs := false) only [go_sem, h1, e] | fail))
end
end Go.Proofs.YtbeghpkkpnbkgaaGreatDoor
/- Numbers held against themselves; orders by numbers. -/
namespace Go.Proofs.YtbeghpkkpnbkgaaGreatDoor
open Go.RowKit
section
variable {G : Nat → Option (List D)}
theorem nanI_m (x : Nat) : Spec Tryz.prog G 138 [iD x] (.one (.c (.v (.bool false)))) := by
  have h : ((x : Int) == (x : Int)) = true := beq_self_eq_true _
  unfold iD
  refine spec_of Tryz.func138 rfl rfl rfl (by kernel_rfl) rfl fun K => ?_
  (repeat' (first | with_reducible (first | refine zA fun Kn hK => ?_ | refine zB (by kernel_rfl) ?_ | refine Nx.go ?_ | go_step) | fail | with_reducible (first | refine zI ?_ | refine zJ ?_ | refine zK ?_ ?_ | refine zL ?_ ?_ | refine zR (by kernel_rfl) ?_) | simp (maxSteps := 9999999) (disch := omega) only [wq] | (with_reducible refine zM (fun hb => ?_) (fun hb => ?_) <;> (try simp only [hb])) | (with_reducible refine And.intro (by first | omega | (simp; done) | (simp; omega)) ?_) | simp (maxSteps := 9999999) (implicitDefEqProofs := false) only [go_sem, h, bne, Bool.not_true] | fail))
theorem cmpI_m (x : Nat) : Spec Tryz.prog G 122 [iD x, iD x] (.one (iD 0)) := by
  have h := nanI_m (G := G) x
  have h1 : decide ((x : Int) < (x : Int)) = false := decide_eq_false (by omega)
  have h2 : decide ((x : Int) > (x : Int)) = false := decide_eq_false (by omega)
  unfold iD at *
  refine spec_of Tryz.func122 rfl rfl rfl (by kernel_rfl) rfl fun K => ?_
  (repeat' (first | with_reducible (first | refine zA fun Kn hK => ?_ | refine zB (by kernel_rfl) ?_ | refine Nx.go ?_ | go_step) | (refine ⟨_, h, ?_⟩) | with_reducible (first | refine zI ?_ | refine zJ ?_ | refine zK ?_ ?_ | refine zL ?_ ?_ | refine zR (by kernel_rfl) ?_) | simp (maxSteps := 9999999) (disch := omega) only [wq] | (with_reducible refine zM (fun hb => ?_) (fun hb => ?_) <;> (try simp only [hb])) | (with_reducible refine And.intro (by first | omega | (simp; done) | (simp; omega)) ?_) | simp (maxSteps := 9999999) (implicitDefEqProofs := false) only [go_sem, h1, h2] | fail))
  try rfl
theorem nanL_m (x : Nat) : Spec Tryz.prog G 133 [iD x] (.one (.c (.v (.bool false)))) := by
  have h : ((x : Int) == (x : Int)) = true := beq_self_eq_true _
  unfold iD
  refine spec_of Tryz.func133 rfl rfl rfl (by kernel_rfl) rfl fun K => ?_
  (repeat' (first | with_reducible (first | refine zA fun Kn hK => ?_ | refine zB (by kernel_rfl) ?_ | refine Nx.go ?_ | go_step) | fail | with_reducible (first | refine zI ?_ | refine zJ ?_ | refine zK ?_ ?_ | refine zL ?_ ?_ | refine zR (by kernel_rfl) ?_) | simp (maxSteps := 9999999) (disch := omega) only [wq] | (with_reducible refine zM (fun hb => ?_) (fun hb => ?_) <;> (try simp only [hb])) | (with_reducible refine And.intro (by first | omega | (simp; done) | (simp; omega)) ?_) | simp (maxSteps := 9999999) (implicitDefEqProofs := false) only [go_sem, h, bne, Bool.not_true] | fail))
theorem cmpL_m (x : Nat) : Spec Tryz.prog G 117 [iD x, iD x] (.one (iD 0)) := by
  have h := nanL_m (G := G) x
  have h1 : decide ((x : Int) < (x : Int)) = false := decide_eq_false (by omega)
  have h2 : decide ((x : Int) > (x : Int)) = false := decide_eq_false (by omega)
  unfold iD at *
  refine spec_of Tryz.func117 rfl rfl rfl (by kernel_rfl) rfl fun K => ?_
  (repeat' (first | with_reducible (first | refine zA fun Kn hK => ?_ | refine zB (by kernel_rfl) ?_ | refine Nx.go ?_ | go_step) | (refine ⟨_, h, ?_⟩) | with_reducible (first | refine zI ?_ | refine zJ ?_ | refine zK ?_ ?_ | refine zL ?_ ?_ | refine zR (by kernel_rfl) ?_) | simp (maxSteps := 9999999) (disch := omega) only [wq] | (with_reducible refine zM (fun hb => ?_) (fun hb => ?_) <;> (try simp only [hb])) | (with_reducible refine And.intro (by first | omega | (simp; done) | (simp; omega)) ?_) | simp (maxSteps := 9999999) (implicitDefEqProofs := false) only [go_sem, h1, h2] | fail))
  try rfl
/-- A function's value. -/
def fnV (f : FuncId) : D := .v (.func (.func f) #[] #[])
theorem numL_m (f : FuncId) : Spec Tryz.prog G 97 [.c (fnV f)] (.one (.c (.fn 116 [.ptr [fnV f] 0]))) := by
  unfold fnV
  refine spec_of Tryz.func97 rfl rfl rfl (by kernel_rfl) rfl fun K => ?_
  (repeat' (first | with_reducible (first | refine zA fun Kn hK => ?_ | refine zB (by kernel_rfl) ?_ | refine Nx.go ?_ | go_step) | fail | with_reducible (first | refine zI ?_ | refine zJ ?_ | refine zK ?_ ?_ | refine zL ?_ ?_ | refine zR (by kernel_rfl) ?_) | simp (maxSteps := 9999999) (disch := omega) only [wq] | (with_reducible refine zM (fun hb => ?_) (fun hb => ?_) <;> (try simp only [hb])) | (with_reducible refine And.intro (by first | omega | (simp; done) | (simp; omega)) ?_) | simp (maxSteps := 9999999) (implicitDefEqProofs := false) only [go_sem, true_and, List.mapM_cons, List.mapM_nil, Option.bind_eq_bind, Option.bind_some, Option.pure_def] | fail))
/-- A text held against itself, by a number that is got of it. -/
theorem byL_m (f : FuncId) (n : Nat) (b : List D) (o : Option Nat) (hf : funcOk Tryz.prog f = true) (h : Spec Tryz.prog G f [.c (.sl n b)] (.many [iD (o.getD 0), .c (.v (.bool o.isSome))])) :
    Spec Tryz.prog G 116 [.c (.sl n b), .c (.sl n b), .c (.ptr [fnV f] 0)] (.many [iD 0, .c (.v (.bool o.isSome))]) := by
  unfold fnV
  rcases o with _ | x
  · unfold iD at *
    refine spec_of Tryz.func116 rfl rfl rfl (by kernel_rfl) rfl fun K => ?_
    (repeat' (first | with_reducible (first | refine zA fun Kn hK => ?_ | refine zB (by kernel_rfl) ?_ | refine Nx.go ?_ | go_step) | (refine ⟨_, h, ?_⟩) | with_reducible (first | refine zI ?_ | refine zJ ?_ | refine zK ?_ ?_ | refine zL ?_ ?_ | refine zR (by kernel_rfl) ?_) | simp (maxSteps := 9999999) (disch := omega) only [wq] | (with_reducible refine zM (fun hb => ?_) (fun hb => ?_) <;> (try simp only [hb])) | (with_reducible refine And.intro (by first | omega | (simp; done) | (simp; omega)) ?_) | simp (maxSteps := 9999999) (implicitDefEqProofs := false) only [go_sem, hf] | fail))
    try rfl
  · have hc := cmpL_m (G := G) x
    have e : ((x : Int) == (x : Int)) = true := beq_self_eq_true _
    simp only [Option.getD_some, Option.isSome_some] at h
    unfold iD at *
    refine spec_of Tryz.func116 rfl rfl rfl (by kernel_rfl) rfl fun K => ?_
    (repeat' (first | with_reducible (first | refine zA fun Kn hK => ?_ | refine zB (by kernel_rfl) ?_ | refine Nx.go ?_ | go_step) | (refine ⟨_, h, ?_⟩) | (refine ⟨_, hc, ?_⟩) | with_reducible (first | refine zI ?_ | refine zJ ?_ | refine zK ?_ ?_ | refine zL ?_ ?_ | refine zR (by kernel_rfl) ?_) | simp (maxSteps := 9999999) (disch := omega) only [wq] | (with_reducible refine zM (fun hb => ?_) (fun hb => ?_) <;> (try simp only [hb])) | (with_reducible refine And.intro (by first | omega | (simp; done) | (simp; omega)) ?_) | simp (maxSteps := 9999999) (implicitDefEqProofs := false) only [go_sem, hf, e, bne, Bool.not_true] | fail))
    try rfl
end
end Go.Proofs.YtbeghpkkpnbkgaaGreatDoor
/- Noughts ahead. -/
namespace Go.Proofs.YtbeghpkkpnbkgaaGreatDoor
open Go.RowKit
def bareL : List UInt8 → List UInt8
  | [] => []
  | x :: l => if x = 0 then bareL l else x :: l
theorem bareL_le : ∀ l : List UInt8, (bareL l).length ≤ l.length
  | [] => Nat.le_refl _
  | x :: l => by
    rw [bareL]
    split
    · have := bareL_le l
      simp only [List.length_cons]
      omega
    · exact Nat.le_refl _
section
variable {G : Nat → Option (List D)}
theorem orI_m : Spec Tryz.prog G 121 [.c (.sl 2 [.v (.int .i64 0), .v (.int .i64 0)])] (.one (iD 0)) := by
  unfold iD
  refine spec_of Tryz.func121 rfl rfl rfl (by kernel_rfl) rfl fun K => ?_
  (repeat' (first | with_reducible (first | refine zA fun Kn hK => ?_ | refine zB (by kernel_rfl) ?_ | refine Nx.go ?_ | go_step) | fail | with_reducible (first | refine zI ?_ | refine zJ ?_ | refine zK ?_ ?_ | refine zL ?_ ?_ | refine zR (by kernel_rfl) ?_) | simp (maxSteps := 9999999) (disch := omega) only [wq] | (with_reducible refine zM (fun hb => ?_) (fun hb => ?_) <;> (try simp only [hb])) | (with_reducible refine And.intro (by first | omega | (simp; done) | (simp; omega)) ?_) | simp (maxSteps := 9999999) (implicitDefEqProofs := false) only [go_sem, true_and] | fail))
  refine sound_loopR (fun x : {k : Nat // k ≤ 2} => ⟨[(0, vD (.sl 2 [.v (.int .i64 0), .v (.int .i64 0)])), (3, vI 0), (6, vD (.sl 2 [.v (.int .i64 0), .v (.int .i64 0)])), (7, vI 2), (8, vI x.1)], []⟩) (fun x => 2 - x.1) ⟨0, by omega⟩ [] (by (iterate 2 ((try simp (maxSteps := 9999999) (implicitDefEqProofs := false) only [go_sem, true_and]); (try simp (maxSteps := 9999999) (disch := omega) only [wq]))); try simp) (fun ⟨k, hk⟩ => ?_)
  by_cases h : k < 2
  · have h1 : decide ((k : Int) < 2) = true := decide_eq_true (by omega)
    have hg : ([.v (.int .i64 0), .v (.int .i64 0)] : List D)[k]? = some (.v (.int .i64 0)) := by
      match k, h with
      | 0, _ => rfl
      | 1, _ => rfl
    (repeat' (first | with_reducible (first | refine zA fun Kn hK => ?_ | refine zB (by kernel_rfl) ?_ | refine Nx.go ?_ | go_step) | fail | with_reducible (first | refine zI ?_ | refine zJ ?_ | refine zK ?_ ?_ | refine zL ?_ ?_ | refine zR (by kernel_rfl) ?_) | simp (maxSteps := 9999999) (disch := omega) only [wq] | (with_reducible refine zM (fun hb => ?_) (fun hb => ?_) <;> (try simp only [hb])) | (with_reducible refine And.intro (by first | omega | (simp; done) | (simp; omega)) ?_) | simp (maxSteps := 9999999) (implicitDefEqProofs := false) only [go_sem, h1, hg, bne] | fail))
    refine ⟨[], ⟨k + 1, by omega⟩, ?_⟩
    (iterate 2 ((try simp (maxSteps := 9999999) (implicitDefEqProofs := false) only [go_sem, true_and]); (try simp (maxSteps := 9999999) (disch := omega) only [wq])))
    try (simp only [ijq, true_and, and_true]; first | done | omega | (split <;> omega) | (simp; done) | (simp; omega))
    try omega
  · have h1 : decide ((k : Int) < 2) = false := decide_eq_false (by omega)
    (repeat' (first | with_reducible (first | refine zA fun Kn hK => ?_ | refine zB (by kernel_rfl) ?_ | refine Nx.go ?_ | go_step) | fail | with_reducible (first | refine zI ?_ | refine zJ ?_ | refine zK ?_ ?_ | refine zL ?_ ?_ | refine zR (by kernel_rfl) ?_) | simp (maxSteps := 9999999) (disch := omega) only [wq] | (with_reducible refine zM (fun hb => ?_) (fun hb => ?_) <;> (try simp only [hb])) | (with_reducible refine And.intro (by first | omega | (simp; done) | (simp; omega)) ?_) | simp (maxSteps := 9999999) (implicitDefEqProofs := false) only [go_sem, h1] | fail))
    try rfl
theorem trimB_m (b : List UInt8) (hn : b.length ≤ 1000000000) : Spec Tryz.prog G 134 [.c (.sl b.length (b.map bD)), .c (.v (.int .u8 0))] (.one (.c (.sl (bareL b).length ((bareL b).map bD)))) := by
  obtain ⟨R, hR⟩ : ∃ R, bareL b = R := ⟨_, rfl⟩
  rw [hR]
  refine spec_of Tryz.func134 rfl rfl rfl (by kernel_rfl) rfl fun K => ?_
  (repeat' (first | with_reducible (first | refine zA fun Kn hK => ?_ | refine zB (by kernel_rfl) ?_ | refine Nx.go ?_ | go_step) | fail | with_reducible (first | refine zI ?_ | refine zJ ?_ | refine zK ?_ ?_ | refine zL ?_ ?_ | refine zR (by kernel_rfl) ?_) | simp (maxSteps := 9999999) (disch := omega) only [wq] | (with_reducible refine zM (fun hb => ?_) (fun hb => ?_) <;> (try simp only [hb])) | (with_reducible refine And.intro (by first | omega | (simp; done) | (simp; omega)) ?_) | simp (maxSteps := 9999999) (implicitDefEqProofs := false) only [go_sem, true_and] | fail))
  refine sound_loopR (fun x : {l : List UInt8 // bareL l = R ∧ l.length ≤ b.length} => ⟨[(0, vD (.sl x.1.length (x.1.map bD))), (1, vD (.v (.int .u8 0)))], []⟩) (fun x => x.1.length) ⟨b, hR, Nat.le_refl _⟩ [] (by (iterate 2 ((try simp (maxSteps := 9999999) (implicitDefEqProofs := false) only [go_sem, true_and]); (try simp (maxSteps := 9999999) (disch := omega) only [wq]))); try simp) (fun ⟨l, hl, hle⟩ => ?_)
  cases l with
  | nil =>
    have hl' : R = [] := hl.symm
    have h1 : decide (((0 : Nat) : Int) > 0) = false := rfl
    have h2 : (((0 : Nat) : Int) == 0) = true := rfl
    subst hl'
    (repeat' (first | with_reducible (first | refine zA fun Kn hK => ?_ | refine zB (by kernel_rfl) ?_ | refine Nx.go ?_ | go_step) | fail | with_reducible (first | refine zI ?_ | refine zJ ?_ | refine zK ?_ ?_ | refine zL ?_ ?_ | refine zR (by kernel_rfl) ?_) | simp (maxSteps := 9999999) (disch := omega) only [wq] | (with_reducible refine zM (fun hb => ?_) (fun hb => ?_) <;> (try simp only [hb])) | (with_reducible refine And.intro (by first | omega | (simp; done) | (simp; omega)) ?_) | simp (maxSteps := 9999999) (implicitDefEqProofs := false) only [go_sem, List.length_nil, h1, h2] | fail))
    try rfl
  | cons x l =>
    have hlc : (x :: l).length = l.length + 1 := rfl
    rw [hlc] at hle
    have h1 : decide (((l.length + 1 : Nat) : Int) > 0) = true := decide_eq_true (by omega)
    have h0 : (0 : Int) < ((l.length + 1 : Nat) : Int) := by omega
    have hx : ((x.toNat : Int) == 0) = decide (x = 0) := by
      rw [Bool.eq_iff_iff]
      simp only [beq_iff_eq, decide_eq_true_eq, ← UInt8.toNat_inj, UInt8.toNat_ofNat]
      omega
    have h2 : (((l.length + 1 : Nat) : Int) == 0) = false := by rw [beq_eq_false_iff_ne]; omega
    have hm : (x :: l).map bD = bD x :: l.map bD := rfl
    have ht : (l.map bD).take l.length = l.map bD := List.take_of_length_le (by rw [List.length_map]; omega)
    by_cases c : x = 0
    · rw [decide_eq_true c] at hx
      have hl2 : bareL l = R := by rw [← hl, bareL, if_pos c]
      (repeat' (first | with_reducible (first | refine zA fun Kn hK => ?_ | refine zB (by kernel_rfl) ?_ | refine Nx.go ?_ | go_step) | fail | with_reducible (first | refine zI ?_ | refine zJ ?_ | refine zK ?_ ?_ | refine zL ?_ ?_ | refine zR (by kernel_rfl) ?_) | simp (maxSteps := 9999999) (disch := omega) only [wq] | (with_reducible refine zM (fun hb => ?_) (fun hb => ?_) <;> (try simp only [hb])) | (with_reducible refine And.intro (by first | omega | (simp; done) | (simp; omega)) ?_) | simp (maxSteps := 9999999) (implicitDefEqProofs := false) only [go_sem, decide_true, hlc, h1, h0, hx, hm, ht, bD, Nat.add_sub_cancel] | fail))
      refine ⟨[], ⟨l, hl2, by omega⟩, ?_⟩
      (iterate 2 ((try simp (maxSteps := 9999999) (implicitDefEqProofs := false) only [go_sem, true_and]); (try simp (maxSteps := 9999999) (disch := omega) only [wq])))
      try (simp only [ijq, true_and, and_true]; first | done | omega | (split <;> omega) | (simp; done) | (simp; omega))
      try omega
    · rw [decide_eq_false c] at hx
      have hl2 : bareL (x :: l) = x :: l := by rw [bareL, if_neg c]
      (repeat' (first | with_reducible (first | refine zA fun Kn hK => ?_ | refine zB (by kernel_rfl) ?_ | refine Nx.go ?_ | go_step) | fail | with_reducible (first | refine zI ?_ | refine zJ ?_ | refine zK ?_ ?_ | refine zL ?_ ?_ | refine zR (by kernel_rfl) ?_) | simp (maxSteps := 9999999) (disch := omega) only [wq] | (with_reducible refine zM (fun hb => ?_) (fun hb => ?_) <;> (try simp only [hb])) | (with_reducible refine And.intro (by first | omega | (simp; done) | (simp; omega)) ?_) | simp (maxSteps := 9999999) (implicitDefEqProofs := false) only [go_sem, decide_true, hlc, h1, h0, hx, hm, h2, bD] | fail))
      rw [← hl, hl2]
      rfl
end
end Go.Proofs.YtbeghpkkpnbkgaaGreatDoor
/- Texts held against themselves. -/
namespace Go.Proofs.YtbeghpkkpnbkgaaGreatDoor
open Go.RowKit
section
variable {G : Nat → Option (List D)}
theorem trim_m (b : List UInt8) (hn : b.length ≤ 1000000000) : Spec Tryz.prog G 120 [.c (.sl b.length (b.map bD)), .c (.v (.string ⟨#[0]⟩))] (.one (.c (.sl (bareL b).length ((bareL b).map bD)))) := by
  have T := trimB_m (G := G) b hn
  cases b with
  | nil =>
    have h2 : (((0 : Nat) : Int) == 0) = true := rfl
    refine spec_of Tryz.func120 rfl rfl rfl (by kernel_rfl) rfl fun K => ?_
    (repeat' (first | with_reducible (first | refine zA fun Kn hK => ?_ | refine zB (by kernel_rfl) ?_ | refine Nx.go ?_ | go_step) | fail | with_reducible (first | refine zI ?_ | refine zJ ?_ | refine zK ?_ ?_ | refine zL ?_ ?_ | refine zR (by kernel_rfl) ?_) | simp (maxSteps := 9999999) (disch := omega) only [wq] | (with_reducible refine zM (fun hb => ?_) (fun hb => ?_) <;> (try simp only [hb])) | (with_reducible refine And.intro (by first | omega | (simp; done) | (simp; omega)) ?_) | simp (maxSteps := 9999999) (implicitDefEqProofs := false) only [go_sem, List.length_nil, h2, decide_true] | fail))
    all_goals try rfl
  | cons x l =>
    have h2 : (((l.length + 1 : Nat) : Int) == 0) = false := by rw [beq_eq_false_iff_ne]; omega
    have hlc : (x :: l).length = l.length + 1 := rfl
    rw [hlc] at T ⊢
    generalize (x :: l).map bD = L at *
    have s1 : ((⟨#[0]⟩ : ByteArray) == ⟨#[]⟩) = false := by decide +kernel
    have s2 : (⟨#[0]⟩ : ByteArray).size = 1 := rfl
    have s3 : (([0] : List UInt8) == []) = false := rfl
    have s4 : (((1 : Nat) : Int) == 1) = true := rfl
    have s5 : decide (((UInt8.toNat 0 : Nat) : Int) < 128) = true := by decide
    have s6 : ((UInt8.toNat 0 : Nat) : Int) = 0 := by decide
    refine spec_of Tryz.func120 rfl rfl rfl (by kernel_rfl) rfl fun K => ?_
    (repeat' (first | with_reducible (first | refine zA fun Kn hK => ?_ | refine zB (by kernel_rfl) ?_ | refine Nx.go ?_ | go_step) | (refine ⟨_, T, ?_⟩) | with_reducible (first | refine zI ?_ | refine zJ ?_ | refine zK ?_ ?_ | refine zL ?_ ?_ | refine zR (by kernel_rfl) ?_) | simp (maxSteps := 9999999) (disch := omega) only [wq] | (with_reducible refine zM (fun hb => ?_) (fun hb => ?_) <;> (try simp only [hb])) | (with_reducible refine And.intro (by first | omega | (simp; done) | (simp; omega)) ?_) | simp (maxSteps := 9999999) (implicitDefEqProofs := false) only [go_sem, h2, s1, s2, s3, s4, s5, s6, decide_true] | fail))
    all_goals try rfl
end
end Go.Proofs.YtbeghpkkpnbkgaaGreatDoor
/- Bytes that an entry of the model reads; bytes.Compare of a text and itself. -/
namespace Go.Proofs.YtbeghpkkpnbkgaaGreatDoor
open Go.RowKit
theorem bytes_back (b : List UInt8) : Lib.bytesOf (b.map fun x => (x.toNat : Int)) = b := by
  induction b with
  | nil => rfl
  | cons x l ih =>
    simp only [Lib.bytesOf, List.map_cons, List.map_map] at ih ⊢
    rw [ih]
    simp
theorem run_bytes {P : Program} {w : World} {S : Nat → Prop} {A : Option Addr} {n c : Nat} {b : List UInt8} (h : Rep.u8.sl w S A n c b) : (Extern.Bytes.bytesOf (.slice A n c)).run P w = .ok ⟨b.toArray⟩ w := by
  have hl := h.1
  cases A with
  | none =>
    cases b with
    | nil => rfl
    | cons x l =>
      obtain ⟨_, _, _, _, hA, _⟩ := Rep.sl_at h (k := 0) (by simp at hl; omega)
      cases hA
  | some a =>
    have key := Lib.run_loadBytesX (P := P) w (b.map fun x => (x.toNat : Int)) a .empty (fun j x hx => by
      rw [List.getElem?_map, Option.map_eq_some_iff] at hx
      obtain ⟨y, hy, rfl⟩ := hx
      have hj := (List.getElem?_eq_some_iff.1 hy).1
      obtain ⟨bb, o, z, es, hA, _, hz, hes, hc⟩ := Rep.sl_at h (k := j) (by omega)
      obtain rfl : es = [.int .u8 (z.toNat : Int)] := hes
      rw [hy] at hz
      injection hz with hz
      subst hz
      injection hA with hA
      subst hA
      have h1 := hc 0 _ rfl
      have e1 : Rep.u8.size = 1 := rfl
      rw [e1, Nat.mul_one, Nat.add_zero] at h1
      rw [Addr.add_lit]
      exact h1)
    rw [List.length_map, bytes_back] at key
    rw [show n = b.length by omega]
    show (Extern.Bytes.loadBytes a b.length .empty).run P w = _
    rw [key]
    congr 1
    apply ByteArray.ext
    show (#[] : Array UInt8) ++ b.toArray = b.toArray
    simp
theorem cmp_self (x : ByteArray) : Extern.BytealgCompare.cmp x x = 0 := by
  unfold Extern.BytealgCompare.cmp
  have h : ((List.range (min x.size x.size)).find? fun i => x[i]! != x[i]!) = none := List.find?_eq_none.2 (by simp)
  rw [h]
  simp
theorem cmpB_m {G : Nat → Option (List D)} (b : List UInt8) (hn : b.length ≤ 1000000000) : Spec Tryz.prog G 107 [.c (.sl b.length (b.map bD)), .c (.sl b.length (b.map bD))] (.one (iD 0)) := by
  intro w S vs hS hT hA
  obtain ⟨hl, hc⟩ := hA
  match vs, hl with
  | [u, v], _ =>
    obtain ⟨A, c, rfl, hs⟩ := bytes_sl (hc 0 _ _ rfl rfl) rfl
    obtain ⟨A2, c2, rfl, hs2⟩ := bytes_sl (hc 1 _ _ rfl rfl) rfl
    have hx : (callFunc 127 #[.slice A b.length c, .slice A2 b.length c2]).run Tryz.prog w = .ok (.value (.int .i64 0)) w := by
      rw [run_callFunc_extern Tryz.func127 (by kernel_rfl) (by kernel_rfl) (by kernel_rfl) (e := Extern.BytealgCompare.compare) (by kernel_rfl)]
      have h0 : (Extern.BytealgCompare.compare #[.slice A b.length c, .slice A2 b.length c2]).run Tryz.prog w = .ok (.int .i64 0) w := by
        show Sem.run _ (do pure (goInt (Extern.BytealgCompare.cmp (← Extern.Bytes.bytesOf (.slice A b.length c)) (← Extern.Bytes.bytesOf (.slice A2 b.length c2))))) w = _
        simp only [Sem.run_bind, run_bytes hs, run_bytes hs2, Result.andThen_ok, cmp_self]
        rfl
      rw [h0]
      rfl
    clear hc hT hS hs hs2
    generalize b.length = n at *
    go_enter Tryz.func107, Tryz.ntmps107
    go_wp2
    go_ret
    exact ⟨Ev.refl _ _, _, rfl, RD.v (.int .i64 0) rfl⟩
end Go.Proofs.YtbeghpkkpnbkgaaGreatDoor
/- Texts, and numbers as bytes, held against themselves. -/
namespace Go.Proofs.YtbeghpkkpnbkgaaGreatDoor
open Go.RowKit
section
variable {G : Nat → Option (List D)}
theorem alpha_m (b : List UInt8) (hn : b.length ≤ 1000000000) : Spec Tryz.prog G 94 [.c (.sl b.length (b.map bD)), .c (.sl b.length (b.map bD))] (.many [iD 0, .c (.v (.bool true))]) := by
  have h := cmpB_m (G := G) b hn
  generalize b.map bD = L at *
  generalize b.length = n at *
  unfold iD at *
  refine spec_of Tryz.func94 rfl rfl rfl (by kernel_rfl) rfl fun K => ?_
  (repeat' (first | with_reducible (first | refine zA fun Kn hK => ?_ | refine zB (by kernel_rfl) ?_ | refine Nx.go ?_ | go_step) | (refine ⟨_, h, ?_⟩) | with_reducible (first | refine zI ?_ | refine zJ ?_ | refine zK ?_ ?_ | refine zL ?_ ?_ | refine zR (by kernel_rfl) ?_) | simp (maxSteps := 9999999) (disch := omega) only [wq] | (with_reducible refine zM (fun hb => ?_) (fun hb => ?_) <;> (try simp only [hb])) | (with_reducible refine And.intro (by first | omega | (simp; done) | (simp; omega)) ?_) | simp (maxSteps := 9999999) (implicitDefEqProofs := false) only [go_sem, true_and] | fail))
  try rfl
theorem binary_m (b : List UInt8) (hn : b.length ≤ 1000000000) : Spec Tryz.prog G 99 [.c (.sl b.length (b.map bD)), .c (.sl b.length (b.map bD))] (.many [iD 0, .c (.v (.bool true))]) := by
  have h1 := trim_m (G := G) b hn
  have hb : (bareL b).length ≤ 1000000000 := Nat.le_trans (bareL_le b) hn
  have h2 := cmpB_m (G := G) (bareL b) hb
  have h3 := cmpI_m (G := G) (bareL b).length
  have h4 := orI_m (G := G)
  generalize (bareL b).map bD = L' at *
  generalize (bareL b).length = n' at *
  generalize b.map bD = L at *
  generalize b.length = n at *
  unfold iD at *
  have z0 : ((0 : Nat) : Int) = 0 := rfl
  rw [z0] at h4
  refine spec_of Tryz.func99 rfl rfl rfl (by kernel_rfl) rfl fun K => ?_
  (repeat' (first | with_reducible (first | refine zA fun Kn hK => ?_ | refine zB (by kernel_rfl) ?_ | refine Nx.go ?_ | go_step) | (refine ⟨none, ?_⟩) | (refine ⟨_, h1, ?_⟩) | (refine ⟨_, h2, ?_⟩) | (refine ⟨_, h3, ?_⟩) | (refine ⟨_, h4, ?_⟩) | with_reducible (first | refine zI ?_ | refine zJ ?_ | refine zK ?_ ?_ | refine zL ?_ ?_ | refine zR (by kernel_rfl) ?_) | simp (maxSteps := 9999999) (disch := omega) only [wq] | (with_reducible refine zM (fun hb => ?_) (fun hb => ?_) <;> (try simp only [hb])) | (with_reducible refine And.intro (by first | omega | (simp; done) | (simp; omega)) ?_) | simp (maxSteps := 9999999) (implicitDefEqProofs := false) only [go_sem, z0] | fail))
  try rfl
end
end Go.Proofs.YtbeghpkkpnbkgaaGreatDoor
/- Which order it is. -/
namespace Go.Proofs.YtbeghpkkpnbkgaaGreatDoor
open Go.RowKit
def ofD (o : UInt8) : D :=
  if o = 1 then fnV 94
  else if o = 2 then .fn 108 [.ptr [fnV 96] 0]
  else if o = 3 then .fn 116 [.ptr [fnV 98] 0]
  else if o = 4 then fnV 99
  else if o = 5 then .fn 116 [.ptr [fnV 100] 0]
  else .v .nilFunc
section
variable {G : Nat → Option (List D)}
theorem numF_m (f : FuncId) : Spec Tryz.prog G 95 [.c (fnV f)] (.one (.c (.fn 108 [.ptr [fnV f] 0]))) := by
  unfold fnV
  refine spec_of Tryz.func95 rfl rfl rfl (by kernel_rfl) rfl fun K => ?_
  (repeat' (first | with_reducible (first | refine zA fun Kn hK => ?_ | refine zB (by kernel_rfl) ?_ | refine Nx.go ?_ | go_step) | fail | with_reducible (first | refine zI ?_ | refine zJ ?_ | refine zK ?_ ?_ | refine zL ?_ ?_ | refine zR (by kernel_rfl) ?_) | simp (maxSteps := 9999999) (disch := omega) only [wq] | (with_reducible refine zM (fun hb => ?_) (fun hb => ?_) <;> (try simp only [hb])) | (with_reducible refine And.intro (by first | omega | (simp; done) | (simp; omega)) ?_) | simp (maxSteps := 9999999) (implicitDefEqProofs := false) only [go_sem, true_and, List.mapM_cons, List.mapM_nil, Option.bind_eq_bind, Option.bind_some, Option.pure_def] | fail))
theorem of_m (o : UInt8) : Spec Tryz.prog G 85 [.c (bD o)] (.one (.c (ofD o))) := by
  have n2 := numF_m (G := G) 96
  have n3 := numL_m (G := G) 98
  have n5 := numL_m (G := G) 100
  have eq : ∀ k : Nat, k < 256 → ((o.toNat : Int) == (k : Int)) = decide (o = UInt8.ofNat k) := fun k hk => by
    rw [Bool.eq_iff_iff]
    simp only [beq_iff_eq, decide_eq_true_eq, ← UInt8.toNat_inj, UInt8.toNat_ofNat']
    omega
  have e1 : ((o.toNat : Int) == 1) = decide (o = 1) := eq 1 (by decide)
  have e2 : ((o.toNat : Int) == 2) = decide (o = 2) := eq 2 (by decide)
  have e3 : ((o.toNat : Int) == 3) = decide (o = 3) := eq 3 (by decide)
  have e4 : ((o.toNat : Int) == 4) = decide (o = 4) := eq 4 (by decide)
  have e5 : ((o.toNat : Int) == 5) = decide (o = 5) := eq 5 (by decide)
  unfold fnV at n2 n3 n5
  unfold ofD fnV bD
  generalize hp1 : decide (o = 1) = p1 at *
  generalize hp2 : decide (o = 2) = p2 at *
  generalize hp3 : decide (o = 3) = p3 at *
  generalize hp4 : decide (o = 4) = p4 at *
  generalize hp5 : decide (o = 5) = p5 at *
  refine spec_of Tryz.func85 rfl rfl rfl (by kernel_rfl) rfl fun K => ?_
  (repeat' (first | with_reducible (first | refine zA fun Kn hK => ?_ | refine zB (by kernel_rfl) ?_ | refine Nx.go ?_ | go_step) | (refine ⟨_, n2, ?_⟩) | (refine ⟨_, n3, ?_⟩) | (refine ⟨_, n5, ?_⟩) | with_reducible (first | refine zI ?_ | refine zJ ?_ | refine zK ?_ ?_ | refine zL ?_ ?_ | refine zR (by kernel_rfl) ?_) | simp (maxSteps := 9999999) (disch := omega) only [wq] | (with_reducible refine zM (fun hb => ?_) (fun hb => ?_) <;> (try simp only [hb])) | (with_reducible refine And.intro (by first | omega | (simp; done) | (simp; omega)) ?_) | simp (maxSteps := 9999999) (implicitDefEqProofs := false) only [go_sem, e1, e2, e3, e4, e5] | fail))
  all_goals simp_all
end
end Go.Proofs.YtbeghpkkpnbkgaaGreatDoor
/- Has a text a form? (a walk: it goes over a string) -/
namespace Go.Proofs.YtbeghpkkpnbkgaaGreatDoor
open Go.RowKit
def fitB (c f : UInt8) : Bool := if f.toNat = 48 then isDg c else decide (c.toNat = f.toNat)
def fitsB : List UInt8 → List UInt8 → Bool
  | [], [] => true
  | c :: l, f :: m => fitB c f && fitsB l m
  | _, _ => false
theorem fitsB_len : ∀ {l m : List UInt8}, fitsB l m = true → l.length = m.length
  | [], [], _ => rfl
  | c :: l, f :: m, h => by
    rw [fitsB, Bool.and_eq_true] at h
    simp [fitsB_len h.2]
  | [], _ :: _, h => by simp [fitsB] at h
  | _ :: _, [], h => by simp [fitsB] at h
theorem fitsB_step {l m : List UInt8} {k : Nat} {x y : UInt8} (hx : l[k]? = some x) (hy : m[k]? = some y) : fitsB (l.drop k) (m.drop k) = (fitB x y && fitsB (l.drop (k + 1)) (m.drop (k + 1))) := by
  obtain ⟨h1, h2⟩ := List.getElem?_eq_some_iff.1 hx
  obtain ⟨h3, h4⟩ := List.getElem?_eq_some_iff.1 hy
  rw [List.drop_eq_getElem_cons h1, List.drop_eq_getElem_cons h3, h2, h4, fitsB]
theorem iterPos_w {w : World} {k : Nat} {s : ByteArray} {p : Nat} (h : w.heap[k]? = some (.stringIter s p)) : w.iterPos k = p := by simp [World.iterPos, h]
theorem fits_m {G : Nat → Option (List D)} (b f : List UInt8) (hn : b.length ≤ 1000000000) (hf : f.length ≤ 1000000) (ha : ∀ x ∈ f, x.toNat < 128) : Spec Tryz.prog G 118 [.c (bytesD b), .c (.v (.string ⟨f.toArray⟩))] (.one (.c (.v (.bool (fitsB b f))))) := by
  intro w S vs hS hT hA
  obtain ⟨hl, hc⟩ := hA
  match vs, hl with
  | [u, v], _ =>
    obtain ⟨A, c, rfl, hs⟩ := bytes_sl (hc 0 _ _ rfl rfl) rfl
    have hv := hc 1 _ _ rfl rfl
    cases hv
    rename_i hv
    have hsz : (⟨f.toArray⟩ : ByteArray).size = f.length := str_size f
    have hget : ∀ k (h : k < (⟨f.toArray⟩ : ByteArray).size), f[k]? = some ((⟨f.toArray⟩ : ByteArray)[k]'h) := fun k h => by
      rw [hsz] at h
      rw [List.getElem?_eq_getElem h]
      rfl
    have HSB := Lib.hid hS
    have HF := Lib.hid ha
    have HG := Lib.hid hget
    have HSZ := Lib.hid hsz
    obtain ⟨n, hbl⟩ : ∃ n, n = b.length := ⟨_, rfl⟩
    rw [← hbl] at hs hn ⊢
    have HL := Lib.hid hbl
    rw [← hsz] at hf
    clear hc hT hS ha hget hbl hsz
    generalize (⟨f.toArray⟩ : ByteArray) = s at *
    by_cases hnm : n = s.size
    · subst hnm
      have hb0 : Below w.heap.size w (w.iter s 0) := (Below.refl _ w).alloc (Nat.le_refl _) _
      go_enter Tryz.func118, Tryz.ntmps118
      go_wp2
      go_loopw [5] (fun _ wr => ∃ pos : Nat, pos ≤ s.size ∧ wr.heap[w.heap.size]? = some (.stringIter s pos) ∧ Below w.heap.size w wr ∧ Hid (fitsB b f = fitsB (b.drop pos) (f.drop pos))) (fun _ wr => s.size - wr.iterPos w.heap.size)
      case atStart => exact ⟨0, Nat.zero_le _, World.iter_heap w s 0, hb0, rfl⟩
      case round =>
        obtain ⟨pos, hps, hk, hB, HP⟩ := hrel
        have hpos := iterPos_w hk
        by_cases hp : pos < s.size
        · have hg := HG.out pos hp
          have h128 := HF.out _ (List.mem_of_getElem? hg)
          have hnext : ∀ ty, (Instr.next (.pointer (some ⟨w.heap.size, 0, none⟩)) true ty).run Tryz.prog wr = _ := fun ty => Lib.run_next_ascii_at wr w.heap.size s pos ty hk hp h128
          have hk1 := Lib.iterAt_heap wr w.heap.size s pos (pos + 1) hk
          have hB1 : Below w.heap.size w (wr.iterAt w.heap.size s (pos + 1)) := Lib.below_iterAt hB (by omega) s (pos + 1)
          generalize wr.iterAt w.heap.size s (pos + 1) = w1 at *
          obtain ⟨bb, o, x, es, rfl, hbb, hx, hes, hcc⟩ := Rep.sl_at (slKeepM hs hB1 HSB.out) hp
          obtain rfl : es = [.int .u8 (x.toNat : Int)] := hes
          have hc0 := hcc 0 _ rfl
          have e1 : Rep.u8.size = 1 := rfl
          rw [e1, Nat.mul_one, Nat.add_zero] at hc0
          have hst := fitsB_step hx hg
          have HX := Lib.hid hst
          have hxl := UInt8.toNat_lt x
          generalize hy : s[pos] = y at *
          have HT : Hid (fitB x y = if y.toNat = 48 then isDg x else decide (x.toNat = y.toNat)) := rfl
          have HI : Hid (isDg x = decide (48 ≤ x.toNat ∧ x.toNat ≤ 57)) := rfl
          clear hg hx hst hcc
          go_wp2
          all_goals try simp only [Bool.not_eq_true', beq_eq_false_iff_ne, beq_iff_eq, ne_eq, Bool.not_eq_eq_eq_not, Bool.not_true, Bool.not_false, decide_eq_true_eq, decide_eq_false_iff_not, bne_iff_ne] at *
          all_goals first
            | (have hft : fitB x y = true := by
                 rw [HT.out]
                 split
                 · rw [HI.out]
                   exact decide_eq_true (by omega)
                 · exact decide_eq_true (by omega)
               refine ⟨⟨pos + 1, by omega, hk1, hB1, ?_⟩, ?_⟩
               · show _ = _
                 rw [HP.out, HX.out, hft, Bool.true_and]
               · rw [iterPos_w hk1, hpos]
                 omega)
            | (have hft : fitB x y = false := by
                 rw [HT.out]
                 split
                 · rw [HI.out]
                   exact decide_eq_false (by omega)
                 · exact decide_eq_false (by omega)
               have e : fitsB b f = false := by rw [HP.out, HX.out, hft, Bool.false_and]
               go_ret
               exact ⟨⟨hB1.os, hB1.tape, hB1.output, hB1.size, fun k hk _ => hB1.block k hk⟩, .bool false, rfl, by show RD _ _ (.v (.bool (fitsB b f))) _; rw [e]; exact .v _ rfl⟩)
        · have hnext : ∀ ty, (Instr.next (.pointer (some ⟨w.heap.size, 0, none⟩)) true ty).run Tryz.prog wr = _ := fun ty => Lib.run_next_end_at wr w.heap.size s pos ty hk hp
          have e : fitsB b f = true := by
            rw [HP.out, List.drop_of_length_le (by have := HL.out; omega), List.drop_of_length_le (by have := HSZ.out; omega)]
            rfl
          go_wp2
          go_ret
          exact ⟨⟨hB.os, hB.tape, hB.output, hB.size, fun k hk _ => hB.block k hk⟩, .bool true, rfl, by show RD _ _ (.v (.bool (fitsB b f))) _; rw [e]; exact .v _ rfl⟩
    · have e : fitsB b f = false := by
        cases h : fitsB b f with
        | false => rfl
        | true =>
          have := fitsB_len h
          have := HL.out
          have := HSZ.out
          omega
      rw [e]
      have hz : ((n : Int) == (s.size : Int)) = false := by rw [beq_eq_false_iff_ne]; omega
      go_enter Tryz.func118, Tryz.ntmps118
      go_wp2
      go_ret
      exact ⟨Ev.refl _ _, .bool false, rfl, RD.v (.bool false) rfl⟩
end Go.Proofs.YtbeghpkkpnbkgaaGreatDoor
/- The document's clock and dates. -/
namespace Go.Proofs.YtbeghpkkpnbkgaaGreatDoor
open Go.RowKit
def resO (o : Option Nat) : DR := .many [iD (o.getD 0), .c (.v (.bool o.isSome))]
def twoO (b : List UInt8) (i : Nat) : Option Nat := match b[i]?, b[i + 1]? with
  | some x, some y => if isDg x && isDg y then some (10 * (x.toNat - 48) + (y.toNat - 48)) else none
  | _, _ => none
section
variable {G : Nat → Option (List D)}
theorem two_m (b : List UInt8) (n i : Nat) (lb : b.length = n) (hn : n ≤ 1000000000) (hi : i ≤ 1000) : Spec Tryz.prog G 103 [.c (.sl n (b.map bD)), iD i] (resO (twoO b i)) := by
  unfold resO iD
  have w1 : IntKind.i64.wrap ((i : Int) + 2) = (i : Int) + 2 := IntWalk.i64_in _ (by omega)
  have w2 : IntKind.i64.wrap ((i : Int) + 1) = (i : Int) + 1 := IntWalk.i64_in _ (by omega)
  have t1 : ((i : Int) + 1).toNat = i + 1 := by omega
  by_cases h : i + 2 ≤ n
  · have h1 : decide ((i : Int) + 2 > (n : Int)) = false := decide_eq_false (by omega)
    obtain ⟨x, hx⟩ : ∃ x, b[i]? = some x := ⟨_, List.getElem?_eq_getElem (by omega)⟩
    obtain ⟨y, hy⟩ : ∃ y, b[i + 1]? = some y := ⟨_, List.getElem?_eq_getElem (by omega)⟩
    have gx : (b.map bD)[i]? = some (bD x) := by rw [List.getElem?_map, hx]; rfl
    have gy : (b.map bD)[i + 1]? = some (bD y) := by rw [List.getElem?_map, hy]; rfl
    have x1 := UInt8.toNat_lt x
    have y1 := UInt8.toNat_lt y
    have e : twoO b i = if isDg x && isDg y then some (10 * (x.toNat - 48) + (y.toNat - 48)) else none := by simp only [twoO, hx, hy]
    rw [e]
    have ex : isDg x = (!decide ((x.toNat : Int) < 48) && !decide ((x.toNat : Int) > 57)) := by rw [Bool.eq_iff_iff]; simp [isDg]; omega
    have ey : isDg y = (!decide ((y.toNat : Int) < 48) && !decide ((y.toNat : Int) > 57)) := by rw [Bool.eq_iff_iff]; simp [isDg]; omega
    rw [ex, ey]
    by_cases a1 : (x.toNat : Int) < 48
    · have f1 := decide_eq_true a1
      refine spec_of Tryz.func103 rfl rfl rfl (by kernel_rfl) rfl fun K => ?_
      (repeat' (first | with_reducible (first | refine zA fun Kn hK => ?_ | refine zB (by kernel_rfl) ?_ | refine Nx.go ?_ | go_step) | fail | with_reducible (first | refine zI ?_ | refine zJ ?_ | refine zK ?_ ?_ | refine zL ?_ ?_ | refine zR (by kernel_rfl) ?_) | simp (maxSteps := 9999999) (disch := omega) only [wq] | (with_reducible refine zM (fun hb => ?_) (fun hb => ?_) <;> (try simp only [hb])) | (with_reducible refine And.intro (by first | omega | (simp; done) | (simp; omega)) ?_) | simp (maxSteps := 9999999) (implicitDefEqProofs := false) only [go_sem, w1, w2, t1, h1, gx, gy, bD, f1, List.length_map, lb] | fail))
      try rfl
    · have f1 := decide_eq_false a1
      by_cases a2 : (x.toNat : Int) > 57
      · have f2 := decide_eq_true a2
        refine spec_of Tryz.func103 rfl rfl rfl (by kernel_rfl) rfl fun K => ?_
        (repeat' (first | with_reducible (first | refine zA fun Kn hK => ?_ | refine zB (by kernel_rfl) ?_ | refine Nx.go ?_ | go_step) | fail | with_reducible (first | refine zI ?_ | refine zJ ?_ | refine zK ?_ ?_ | refine zL ?_ ?_ | refine zR (by kernel_rfl) ?_) | simp (maxSteps := 9999999) (disch := omega) only [wq] | (with_reducible refine zM (fun hb => ?_) (fun hb => ?_) <;> (try simp only [hb])) | (with_reducible refine And.intro (by first | omega | (simp; done) | (simp; omega)) ?_) | simp (maxSteps := 9999999) (implicitDefEqProofs := false) only [go_sem, w1, w2, t1, h1, gx, gy, bD, f1, f2, List.length_map, lb] | fail))
        try rfl
      · have f2 := decide_eq_false a2
        by_cases a3 : (y.toNat : Int) < 48
        · have f3 := decide_eq_true a3
          refine spec_of Tryz.func103 rfl rfl rfl (by kernel_rfl) rfl fun K => ?_
          (repeat' (first | with_reducible (first | refine zA fun Kn hK => ?_ | refine zB (by kernel_rfl) ?_ | refine Nx.go ?_ | go_step) | fail | with_reducible (first | refine zI ?_ | refine zJ ?_ | refine zK ?_ ?_ | refine zL ?_ ?_ | refine zR (by kernel_rfl) ?_) | simp (maxSteps := 9999999) (disch := omega) only [wq] | (with_reducible refine zM (fun hb => ?_) (fun hb => ?_) <;> (try simp only [hb])) | (with_reducible refine And.intro (by first | omega | (simp; done) | (simp; omega)) ?_) | simp (maxSteps := 9999999) (implicitDefEqProofs := false) only [go_sem, w1, w2, t1, h1, gx, gy, bD, f1, f2, f3, List.length_map, lb] | fail))
          try rfl
        · have f3 := decide_eq_false a3
          by_cases a4 : (y.toNat : Int) > 57
          · have f4 := decide_eq_true a4
            refine spec_of Tryz.func103 rfl rfl rfl (by kernel_rfl) rfl fun K => ?_
            (repeat' (first | with_reducible (first | refine zA fun Kn hK => ?_ | refine zB (by kernel_rfl) ?_ | refine Nx.go ?_ | go_step) | fail | with_reducible (first | refine zI ?_ | refine zJ ?_ | refine zK ?_ ?_ | refine zL ?_ ?_ | refine zR (by kernel_rfl) ?_) | simp (maxSteps := 9999999) (disch := omega) only [wq] | (with_reducible refine zM (fun hb => ?_) (fun hb => ?_) <;> (try simp only [hb])) | (with_reducible refine And.intro (by first | omega | (simp; done) | (simp; omega)) ?_) | simp (maxSteps := 9999999) (implicitDefEqProofs := false) only [go_sem, w1, w2, t1, h1, gx, gy, bD, f1, f2, f3, f4, List.length_map, lb] | fail))
            try rfl
          · have f4 := decide_eq_false a4
            have z1 : (x.toNat : Int) - 48 = ((x.toNat - 48 : Nat) : Int) := by omega
            have z2 : (y.toNat : Int) - 48 = ((y.toNat - 48 : Nat) : Int) := by omega
            rw [f1, f2, f3, f4]
            refine spec_of Tryz.func103 rfl rfl rfl (by kernel_rfl) rfl fun K => ?_
            (repeat' (first | with_reducible (first | refine zA fun Kn hK => ?_ | refine zB (by kernel_rfl) ?_ | refine Nx.go ?_ | go_step) | fail | with_reducible (first | refine zI ?_ | refine zJ ?_ | refine zK ?_ ?_ | refine zL ?_ ?_ | refine zR (by kernel_rfl) ?_) | simp (maxSteps := 9999999) (disch := omega) only [wq] | (with_reducible refine zM (fun hb => ?_) (fun hb => ?_) <;> (try simp only [hb])) | (with_reducible refine And.intro (by first | omega | (simp; done) | (simp; omega)) ?_) | simp (maxSteps := 9999999) (implicitDefEqProofs := false) only [go_sem, w1, w2, t1, h1, gx, gy, bD, f1, f2, f3, f4, z1, z2, List.length_map, lb] | fail))
            try rfl
  · have h1 : decide ((i : Int) + 2 > (n : Int)) = true := decide_eq_true (by omega)
    have e : twoO b i = none := by
      rw [twoO, List.getElem?_eq_none (by omega : b.length ≤ i + 1)]
      split
      · rename_i h; cases h
      · rfl
    rw [e]
    refine spec_of Tryz.func103 rfl rfl rfl (by kernel_rfl) rfl fun K => ?_
    (repeat' (first | with_reducible (first | refine zA fun Kn hK => ?_ | refine zB (by kernel_rfl) ?_ | refine Nx.go ?_ | go_step) | fail | with_reducible (first | refine zI ?_ | refine zJ ?_ | refine zK ?_ ?_ | refine zL ?_ ?_ | refine zR (by kernel_rfl) ?_) | simp (maxSteps := 9999999) (disch := omega) only [wq] | (with_reducible refine zM (fun hb => ?_) (fun hb => ?_) <;> (try simp only [hb])) | (with_reducible refine And.intro (by first | omega | (simp; done) | (simp; omega)) ?_) | simp (maxSteps := 9999999) (implicitDefEqProofs := false) only [go_sem, w1, w2, t1, h1, List.length_map, lb] | fail))
    try rfl
end
end Go.Proofs.YtbeghpkkpnbkgaaGreatDoor
/- The document's clock, months and years. -/
namespace Go.Proofs.YtbeghpkkpnbkgaaGreatDoor
open Go.RowKit
def clk3 (h m s : Nat) : Option Nat := if 23 < h ∨ 59 < m ∨ 59 < s then none else some (3600 * h + 60 * m + s)
def clockR (b : List UInt8) : Option Nat :=
  if b.length = 8 ∧ b[2]? = some 58 ∧ b[5]? = some 58 then (match twoO b 0, twoO b 3, twoO b 6 with
    | some h, some m, some s => clk3 h m s
    | _, _, _ => none)
  else none
theorem twoO_lt {b : List UInt8} {i v : Nat} (h : twoO b i = some v) : v ≤ 99 := by
  unfold twoO at h
  split at h
  · rename_i x y hx hy
    split at h
    · rename_i hd
      rw [Bool.and_eq_true] at hd
      have h1 : 48 ≤ x.toNat ∧ x.toNat ≤ 57 := of_decide_eq_true hd.1
      have h2 : 48 ≤ y.toNat ∧ y.toNat ≤ 57 := of_decide_eq_true hd.2
      injection h with h
      omega
    · cases h
  · cases h
theorem ubeq (x : UInt8) (k : Nat) (hk : k < 256) : ((x.toNat : Int) == (k : Int)) = decide (x = UInt8.ofNat k) := by
  rw [Bool.eq_iff_iff]
  simp only [beq_iff_eq, decide_eq_true_eq, ← UInt8.toNat_inj, UInt8.toNat_ofNat']
  omega
theorem cdf {l : List D} {n : Nat} (h : l.length = n) : l.take n = l ∧ (l.map C.d).take n = l.map C.d ∧ (l.map C.d).drop n = [] :=
  ⟨List.take_of_length_le (by omega), List.take_of_length_le (by rw [List.length_map]; omega), List.drop_of_length_le (by rw [List.length_map]; omega)⟩
section
variable {G : Nat → Option (List D)}
theorem rclock_m (b : List UInt8) (n : Nat) (lb : b.length = n) (hn : n ≤ 1000000000) : Spec Tryz.prog G 90 [.c (.sl n (b.map bD))] (resO (clockR b)) := by
  have e8 : ((n : Int) == 8) = decide (n = 8) := nbeq n 8
  by_cases h8 : n = 8
  · obtain ⟨x2, hx2⟩ : ∃ x, b[2]? = some x := ⟨_, List.getElem?_eq_getElem (by omega)⟩
    obtain ⟨x5, hx5⟩ : ∃ x, b[5]? = some x := ⟨_, List.getElem?_eq_getElem (by omega)⟩
    have g2 : (b.map bD)[2]? = some (bD x2) := by rw [List.getElem?_map, hx2]; rfl
    have g5 : (b.map bD)[5]? = some (bD x5) := by rw [List.getElem?_map, hx5]; rfl
    have e2 : ((x2.toNat : Int) == 58) = decide (x2 = 58) := ubeq x2 58 (by decide)
    have e5 : ((x5.toNat : Int) == 58) = decide (x5 = 58) := ubeq x5 58 (by decide)
    rw [decide_eq_true h8] at e8
    have b2 : (2 : Int) < (n : Int) := by omega
    have b5 : (5 : Int) < (n : Int) := by omega
    by_cases c : x2 = 58 ∧ x5 = 58
    · have T0 := two_m (G := G) b n 0 lb hn (by omega)
      have T3 := two_m (G := G) b n 3 lb hn (by omega)
      have T6 := two_m (G := G) b n 6 lb hn (by omega)
      rw [decide_eq_true c.1] at e2
      rw [decide_eq_true c.2] at e5
      have e : clockR b = (match twoO b 0, twoO b 3, twoO b 6 with
        | some h, some m, some s => clk3 h m s
        | _, _, _ => none) := by
        rw [clockR, if_pos ⟨by omega, by rw [hx2, c.1], by rw [hx5, c.2]⟩]
      rw [e]
      have l0 := @twoO_lt b 0
      have l3 := @twoO_lt b 3
      have l6 := @twoO_lt b 6
      generalize twoO b 0 = o0 at *
      generalize twoO b 3 = o3 at *
      generalize twoO b 6 = o6 at *
      unfold resO iD at *
      rcases o0 with _ | h
      · refine spec_of Tryz.func90 rfl rfl rfl (by kernel_rfl) rfl fun K => ?_
        (repeat' (first | with_reducible (first | refine zA fun Kn hK => ?_ | refine zB (by kernel_rfl) ?_ | refine Nx.go ?_ | go_step) | (refine ⟨_, T0, ?_⟩) | (refine ⟨_, T3, ?_⟩) | (refine ⟨_, T6, ?_⟩) | with_reducible (first | refine zI ?_ | refine zJ ?_ | refine zK ?_ ?_ | refine zL ?_ ?_ | refine zR (by kernel_rfl) ?_) | simp (maxSteps := 9999999) (disch := omega) only [wq] | (with_reducible refine zM (fun hb => ?_) (fun hb => ?_) <;> (try simp only [hb])) | (with_reducible refine And.intro (by first | omega | (simp; done) | (simp; omega)) ?_) | simp (maxSteps := 9999999) (implicitDefEqProofs := false) only [go_sem, e8, bne, g2, g5, bD, e2, e5, b2, b5, List.length_map, lb] | fail))
        try rfl
      · have k0 := l0 rfl
        rcases o3 with _ | m
        · refine spec_of Tryz.func90 rfl rfl rfl (by kernel_rfl) rfl fun K => ?_
          (repeat' (first | with_reducible (first | refine zA fun Kn hK => ?_ | refine zB (by kernel_rfl) ?_ | refine Nx.go ?_ | go_step) | (refine ⟨_, T0, ?_⟩) | (refine ⟨_, T3, ?_⟩) | (refine ⟨_, T6, ?_⟩) | with_reducible (first | refine zI ?_ | refine zJ ?_ | refine zK ?_ ?_ | refine zL ?_ ?_ | refine zR (by kernel_rfl) ?_) | simp (maxSteps := 9999999) (disch := omega) only [wq] | (with_reducible refine zM (fun hb => ?_) (fun hb => ?_) <;> (try simp only [hb])) | (with_reducible refine And.intro (by first | omega | (simp; done) | (simp; omega)) ?_) | simp (maxSteps := 9999999) (implicitDefEqProofs := false) only [go_sem, e8, bne, g2, g5, bD, e2, e5, b2, b5, List.length_map, lb] | fail))
          try rfl
        · have k3 := l3 rfl
          rcases o6 with _ | s
          · refine spec_of Tryz.func90 rfl rfl rfl (by kernel_rfl) rfl fun K => ?_
            (repeat' (first | with_reducible (first | refine zA fun Kn hK => ?_ | refine zB (by kernel_rfl) ?_ | refine Nx.go ?_ | go_step) | (refine ⟨_, T0, ?_⟩) | (refine ⟨_, T3, ?_⟩) | (refine ⟨_, T6, ?_⟩) | with_reducible (first | refine zI ?_ | refine zJ ?_ | refine zK ?_ ?_ | refine zL ?_ ?_ | refine zR (by kernel_rfl) ?_) | simp (maxSteps := 9999999) (disch := omega) only [wq] | (with_reducible refine zM (fun hb => ?_) (fun hb => ?_) <;> (try simp only [hb])) | (with_reducible refine And.intro (by first | omega | (simp; done) | (simp; omega)) ?_) | simp (maxSteps := 9999999) (implicitDefEqProofs := false) only [go_sem, e8, bne, g2, g5, bD, e2, e5, b2, b5, List.length_map, lb] | fail))
            try rfl
          · have k6 := l6 rfl
            have f1 : decide ((h : Int) > 23) = decide (23 < h) := by rw [decide_eq_decide]; omega
            have f2 : decide ((m : Int) > 59) = decide (59 < m) := by rw [decide_eq_decide]; omega
            have f3 : decide ((s : Int) > 59) = decide (59 < s) := by rw [decide_eq_decide]; omega
            simp only [Option.getD_some, Option.isSome_some] at T0 T3 T6
            dsimp only [clk3]
            by_cases q : 23 < h ∨ 59 < m ∨ 59 < s
            · rw [if_pos q]
              generalize hq1 : decide (23 < h) = q1 at *
              generalize hq2 : decide (59 < m) = q2 at *
              generalize hq3 : decide (59 < s) = q3 at *
              refine spec_of Tryz.func90 rfl rfl rfl (by kernel_rfl) rfl fun K => ?_
              (repeat' (first | with_reducible (first | refine zA fun Kn hK => ?_ | refine zB (by kernel_rfl) ?_ | refine Nx.go ?_ | go_step) | (refine ⟨_, T0, ?_⟩) | (refine ⟨_, T3, ?_⟩) | (refine ⟨_, T6, ?_⟩) | with_reducible (first | refine zI ?_ | refine zJ ?_ | refine zK ?_ ?_ | refine zL ?_ ?_ | refine zR (by kernel_rfl) ?_) | simp (maxSteps := 9999999) (disch := omega) only [wq] | (with_reducible refine zM (fun hb => ?_) (fun hb => ?_) <;> (try simp only [hb])) | (with_reducible refine And.intro (by first | omega | (simp; done) | (simp; omega)) ?_) | simp (maxSteps := 9999999) (implicitDefEqProofs := false) only [go_sem, e8, bne, g2, g5, bD, e2, e5, b2, b5, f1, f2, f3, List.length_map, lb] | fail))
              all_goals first
                | rfl
                | (exfalso; simp_all; omega)
            · rw [if_neg q]
              rw [decide_eq_false (show ¬ 23 < h by omega)] at f1
              rw [decide_eq_false (show ¬ 59 < m by omega)] at f2
              rw [decide_eq_false (show ¬ 59 < s by omega)] at f3
              refine spec_of Tryz.func90 rfl rfl rfl (by kernel_rfl) rfl fun K => ?_
              (repeat' (first | with_reducible (first | refine zA fun Kn hK => ?_ | refine zB (by kernel_rfl) ?_ | refine Nx.go ?_ | go_step) | (refine ⟨_, T0, ?_⟩) | (refine ⟨_, T3, ?_⟩) | (refine ⟨_, T6, ?_⟩) | with_reducible (first | refine zI ?_ | refine zJ ?_ | refine zK ?_ ?_ | refine zL ?_ ?_ | refine zR (by kernel_rfl) ?_) | simp (maxSteps := 9999999) (disch := omega) only [wq] | (with_reducible refine zM (fun hb => ?_) (fun hb => ?_) <;> (try simp only [hb])) | (with_reducible refine And.intro (by first | omega | (simp; done) | (simp; omega)) ?_) | simp (maxSteps := 9999999) (implicitDefEqProofs := false) only [go_sem, e8, bne, g2, g5, bD, e2, e5, b2, b5, f1, f2, f3, List.length_map, lb] | fail))
              try rfl
    · have e : clockR b = none := by
        rw [clockR, if_neg (fun h => c ⟨by rw [hx2] at h; exact Option.some.inj h.2.1, by rw [hx5] at h; exact Option.some.inj h.2.2⟩)]
      rw [e]
      unfold resO iD
      generalize hq1 : decide (x2 = 58) = q1 at *
      generalize hq2 : decide (x5 = 58) = q2 at *
      refine spec_of Tryz.func90 rfl rfl rfl (by kernel_rfl) rfl fun K => ?_
      (repeat' (first | with_reducible (first | refine zA fun Kn hK => ?_ | refine zB (by kernel_rfl) ?_ | refine Nx.go ?_ | go_step) | fail | with_reducible (first | refine zI ?_ | refine zJ ?_ | refine zK ?_ ?_ | refine zL ?_ ?_ | refine zR (by kernel_rfl) ?_) | simp (maxSteps := 9999999) (disch := omega) only [wq] | (with_reducible refine zM (fun hb => ?_) (fun hb => ?_) <;> (try simp only [hb])) | (with_reducible refine And.intro (by first | omega | (simp; done) | (simp; omega)) ?_) | simp (maxSteps := 9999999) (implicitDefEqProofs := false) only [go_sem, e8, bne, g2, g5, bD, e2, e5, b2, b5, List.length_map, lb] | fail))
      all_goals first
        | rfl
        | (exfalso; simp_all)
  · have e : clockR b = none := by rw [clockR, if_neg (fun h => h8 (by omega))]
    rw [decide_eq_false h8] at e8
    rw [e]
    unfold resO iD
    refine spec_of Tryz.func90 rfl rfl rfl (by kernel_rfl) rfl fun K => ?_
    (repeat' (first | with_reducible (first | refine zA fun Kn hK => ?_ | refine zB (by kernel_rfl) ?_ | refine Nx.go ?_ | go_step) | fail | with_reducible (first | refine zI ?_ | refine zJ ?_ | refine zK ?_ ?_ | refine zL ?_ ?_ | refine zR (by kernel_rfl) ?_) | simp (maxSteps := 9999999) (disch := omega) only [wq] | (with_reducible refine zM (fun hb => ?_) (fun hb => ?_) <;> (try simp only [hb])) | (with_reducible refine And.intro (by first | omega | (simp; done) | (simp; omega)) ?_) | simp (maxSteps := 9999999) (implicitDefEqProofs := false) only [go_sem, e8, bne, List.length_map, lb] | fail))
    try rfl
/-- Days of a month. -/
def monL : List Nat := [31, 28, 31, 30, 31, 30, 31, 31, 30, 31, 30, 31]
@[go_sem ↓ high] theorem aop_mon {sl : Nat → SV} {d : Option Nat} {ty : TypeId} {pos : String} {af : Array Edge} {gd : Option (Nat × Bool)} :
    aop Tryz.prog G (evl G sl) ⟨d, .buildSlice 129 12 ⟨[(0, Operand.const (Value.int IntKind.i64 31)), (1, Operand.const (Value.int IntKind.i64 28)), (2, Operand.const (Value.int IntKind.i64 31)), (3, Operand.const (Value.int IntKind.i64 30)), (4, Operand.const (Value.int IntKind.i64 31)), (5, Operand.const (Value.int IntKind.i64 30)), (6, Operand.const (Value.int IntKind.i64 31)), (7, Operand.const (Value.int IntKind.i64 31)), (8, Operand.const (Value.int IntKind.i64 30)), (9, Operand.const (Value.int IntKind.i64 31)), (10, Operand.const (Value.int IntKind.i64 30)), (11, Operand.const (Value.int IntKind.i64 31))]⟩, ty, pos, af, gd⟩ = .need (true = true) (.need (tyok Tryz.prog 3 = true ∧ 12 * szOf Tryz.prog 3 ≤ 16777216) (newQ d 3 ((monL.map fun x : Nat => D.v (.int .i64 (x : Int))).map C.d) (fun d => .row d (szOf Tryz.prog 3) 0 12 (.ex 12)))) := by
  rw [aop_buildSlice]
  kernel_rfl
theorem rdays_m (y m : Nat) (h1 : 1 ≤ m) (h2 : m ≤ 12) : Spec Tryz.prog G 104 [iD y, iD m] (.one (iD (daysN y m))) := by
  have t4 : (y : Int).tmod 4 = ((y % 4 : Nat) : Int) := tm y 4
  have t100 : (y : Int).tmod 100 = ((y % 100 : Nat) : Int) := tm y 100
  have t400 : (y : Int).tmod 400 = ((y % 400 : Nat) : Int) := tm y 400
  have e4 : (((y % 4 : Nat) : Int) == 0) = decide (y % 4 = 0) := nbeq _ 0
  have e100 : (((y % 100 : Nat) : Int) == 0) = decide (y % 100 = 0) := nbeq _ 0
  have e400 : (((y % 400 : Nat) : Int) == 0) = decide (y % 400 = 0) := nbeq _ 0
  have em : ((m : Int) == 2) = decide (m = 2) := nbeq m 2
  have hq : longB y = (decide (y % 4 = 0) && (!decide (y % 100 = 0) || decide (y % 400 = 0))) := rfl
  have h44 : decide (y % 400 = 0) = true → decide (y % 4 = 0) = true := fun h => decide_eq_true (by have := of_decide_eq_true h; omega)
  have w1 : IntKind.i64.wrap ((m : Int) - 1) = (m : Int) - 1 := IntWalk.i64_in _ (by omega)
  have w2 : ((m : Int) - 1).toNat = m - 1 := by omega
  have hl : monL.length = 12 := rfl
  have hg : ∀ k, 1 ≤ k → k ≤ 12 → k ≠ 2 → monL[k - 1]? = some (daysN y k) := by
    intro k a b c
    unfold daysN
    rw [if_neg c]
    match k, a, b, c with
    | 1, _, _, _ => rfl
    | 3, _, _, _ => rfl
    | 4, _, _, _ => rfl
    | 5, _, _, _ => rfl
    | 6, _, _, _ => rfl
    | 7, _, _, _ => rfl
    | 8, _, _, _ => rfl
    | 9, _, _, _ => rfl
    | 10, _, _, _ => rfl
    | 11, _, _, _ => rfl
    | 12, _, _, _ => rfl
  obtain ⟨c1, c2, c3⟩ := cdf (l := monL.map fun x : Nat => D.v (.int .i64 (x : Int))) (n := 12) rfl
  unfold iD
  by_cases c : m = 2
  · have hd : daysN y m = if longB y = true then 29 else 28 := by rw [daysN, if_pos c]
    have g2 : monL[m - 1]? = some 28 := by rw [c]; rfl
    have gg : ((monL.map fun x : Nat => D.v (.int .i64 (x : Int))).map C.d)[m - 1]? = some (C.d (.v (.int .i64 28))) := by rw [List.getElem?_map, List.getElem?_map, g2]; rfl
    rw [decide_eq_true c] at em
    rw [hd, hq]
    generalize decide (y % 4 = 0) = p at *
    generalize decide (y % 100 = 0) = q at *
    generalize decide (y % 400 = 0) = r at *
    refine spec_of Tryz.func104 rfl rfl rfl (by kernel_rfl) rfl fun K => ?_
    (repeat' (first | with_reducible (first | refine zA fun Kn hK => ?_ | refine zB (by kernel_rfl) ?_ | refine Nx.go ?_ | go_step) | fail | with_reducible (first | refine zI ?_ | refine zJ ?_ | refine zK ?_ ?_ | refine zL ?_ ?_ | refine zR (by kernel_rfl) ?_) | simp (maxSteps := 9999999) (disch := omega) only [wq] | (with_reducible refine zM (fun hb => ?_) (fun hb => ?_) <;> (try simp only [hb])) | (with_reducible refine And.intro (by first | omega | (simp; done) | (simp; omega)) ?_) | simp (maxSteps := 9999999) (implicitDefEqProofs := false) only [go_sem, t4, t100, t400, e4, e100, e400, em, bne, w1, w2, hl, c1, c2, c3, gg, List.length_map, List.append_nil] | fail))
    all_goals simp_all
  · rw [decide_eq_false c] at em
    have gg : ((monL.map fun x : Nat => D.v (.int .i64 (x : Int))).map C.d)[m - 1]? = some (C.d (.v (.int .i64 (daysN y m)))) := by rw [List.getElem?_map, List.getElem?_map, hg m h1 h2 c]; rfl
    refine spec_of Tryz.func104 rfl rfl rfl (by kernel_rfl) rfl fun K => ?_
    (repeat' (first | with_reducible (first | refine zA fun Kn hK => ?_ | refine zB (by kernel_rfl) ?_ | refine Nx.go ?_ | go_step) | fail | with_reducible (first | refine zI ?_ | refine zJ ?_ | refine zK ?_ ?_ | refine zL ?_ ?_ | refine zR (by kernel_rfl) ?_) | simp (maxSteps := 9999999) (disch := omega) only [wq] | (with_reducible refine zM (fun hb => ?_) (fun hb => ?_) <;> (try simp only [hb])) | (with_reducible refine And.intro (by first | omega | (simp; done) | (simp; omega)) ?_) | simp (maxSteps := 9999999) (implicitDefEqProofs := false) only [go_sem, t4, t100, t400, e4, e100, e400, em, bne, w1, w2, hl, c1, c2, c3, gg, List.length_map, List.append_nil] | fail))
end
end Go.Proofs.YtbeghpkkpnbkgaaGreatDoor
/- The document's dates. -/
namespace Go.Proofs.YtbeghpkkpnbkgaaGreatDoor
open Go.RowKit
def sumY (a : Nat) : Nat → Nat
  | 0 => 0
  | j + 1 => sumY a j + 337 + daysN (a + j) 2
def aheadR (y : Nat) : Nat := y / 400 * 146097 + sumY (y - y % 400) (y % 400)
theorem daysN_le (y m : Nat) : daysN y m ≤ 31 := by
  unfold daysN
  repeat' split
  all_goals omega
theorem sumY_le (a j : Nat) : sumY a j ≤ 368 * j := by
  induction j with
  | zero => exact Nat.le_refl _
  | succ j ih =>
    have := daysN_le (a + j) 2
    rw [sumY]
    omega
def sumD (y : Nat) : Nat → Nat
  | 0 => 0
  | j + 1 => sumD y j + daysN y (j + 1)
theorem sumD_le (y j : Nat) : sumD y j ≤ 31 * j := by
  induction j with
  | zero => exact Nat.le_refl _
  | succ j ih =>
    have := daysN_le y (j + 1)
    rw [sumD]
    omega
def dayO (A y m d t : Nat) : Option Nat := if m < 1 ∨ 12 < m ∨ d < 1 ∨ daysN y m < d then none else some ((A + (d - 1) + sumD y (m - 1)) * 86400 + t)
def dateR (b : List UInt8) : Option Nat :=
  if b.length = 19 ∧ b[4]? = some 45 ∧ b[7]? = some 45 ∧ b[10]? = some 95 then (match twoO b 0, twoO b 2, twoO b 5, twoO b 8, clockR (b.drop 11) with
    | some c, some e, some m, some d, some t => dayO (aheadR (100 * c + e)) (100 * c + e) m d t
    | _, _, _, _, _ => none)
  else none
theorem clockR_lt {b : List UInt8} {v : Nat} (h : clockR b = some v) : v < 86400 := by
  unfold clockR at h
  split at h
  · split at h
    · unfold clk3 at h
      split at h
      · cases h
      · injection h with h
        omega
    · cases h
  · cases h
section
variable {G : Nat → Option (List D)}
theorem rahead_m (y : Nat) (hy : y ≤ 10000) : Spec Tryz.prog G 105 [iD y] (.one (iD (aheadR y))) := by
  have q400 : (y : Int).tdiv 400 = ((y / 400 : Nat) : Int) := tq y 400
  have t400 : (y : Int).tmod 400 = ((y % 400 : Nat) : Int) := tm y 400
  have es : (y : Int) - ((y % 400 : Nat) : Int) = ((y - y % 400 : Nat) : Int) := by omega
  have hr : y % 400 < 400 := Nat.mod_lt _ (by omega)
  unfold aheadR iD
  generalize ha : y - y % 400 = a at *
  generalize hm : y % 400 = r at *
  generalize hq : y / 400 = q at *
  have hq2 : q ≤ 25 := by omega
  refine spec_of Tryz.func105 rfl rfl rfl (by kernel_rfl) rfl fun K => ?_
  (repeat' (first | with_reducible (first | refine zA fun Kn hK => ?_ | refine zB (by kernel_rfl) ?_ | refine Nx.go ?_ | go_step) | fail | with_reducible (first | refine zI ?_ | refine zJ ?_ | refine zK ?_ ?_ | refine zL ?_ ?_ | refine zR (by kernel_rfl) ?_) | simp (maxSteps := 9999999) (disch := omega) only [wq] | (with_reducible refine zM (fun hb => ?_) (fun hb => ?_) <;> (try simp only [hb])) | (with_reducible refine And.intro (by first | omega | (simp; done) | (simp; omega)) ?_) | simp (maxSteps := 9999999) (implicitDefEqProofs := false) only [go_sem, q400, t400, es] | fail))
  refine sound_loopR (fun x : {j : Nat // j ≤ r} => ⟨[(0, vI y), (3, vI ((q * 146097 + sumY a x.1 : Nat) : Int)), (4, vI ((a + x.1 : Nat) : Int))], []⟩) (fun x => r - x.1) ⟨0, by omega⟩ [] (by (iterate 2 ((try simp (maxSteps := 9999999) (implicitDefEqProofs := false) only [go_sem, true_and]); (try simp (maxSteps := 9999999) (disch := omega) only [wq]))); try simp [sumY]) (fun ⟨j, hj⟩ => ?_)
  have hs := sumY_le a j
  by_cases h : j < r
  · have h1 : decide (((a + j : Nat) : Int) < (y : Int)) = true := decide_eq_true (by omega)
    have hd := daysN_le (a + j) 2
    have D2 := rdays_m (G := G) (a + j) 2 (by omega) (by omega)
    unfold iD at D2
    (repeat' (first | with_reducible (first | refine zA fun Kn hK => ?_ | refine zB (by kernel_rfl) ?_ | refine Nx.go ?_ | go_step) | (refine ⟨_, D2, ?_⟩) | with_reducible (first | refine zI ?_ | refine zJ ?_ | refine zK ?_ ?_ | refine zL ?_ ?_ | refine zR (by kernel_rfl) ?_) | simp (maxSteps := 9999999) (disch := omega) only [wq] | (with_reducible refine zM (fun hb => ?_) (fun hb => ?_) <;> (try simp only [hb])) | (with_reducible refine And.intro (by first | omega | (simp; done) | (simp; omega)) ?_) | simp (maxSteps := 9999999) (implicitDefEqProofs := false) only [go_sem, h1] | fail))
    refine ⟨[], ⟨j + 1, by omega⟩, ?_⟩
    (iterate 2 ((try simp (maxSteps := 9999999) (implicitDefEqProofs := false) only [go_sem, true_and, sumY]); (try simp (maxSteps := 9999999) (disch := omega) only [wq])))
    try (simp only [ijq, true_and, and_true]; first | done | omega | (split <;> omega) | (simp; done) | (simp; omega))
    try omega
  · have h1 : decide (((a + j : Nat) : Int) < (y : Int)) = false := decide_eq_false (by omega)
    obtain rfl : j = r := by omega
    (repeat' (first | with_reducible (first | refine zA fun Kn hK => ?_ | refine zB (by kernel_rfl) ?_ | refine Nx.go ?_ | go_step) | fail | with_reducible (first | refine zI ?_ | refine zJ ?_ | refine zK ?_ ?_ | refine zL ?_ ?_ | refine zR (by kernel_rfl) ?_) | simp (maxSteps := 9999999) (disch := omega) only [wq] | (with_reducible refine zM (fun hb => ?_) (fun hb => ?_) <;> (try simp only [hb])) | (with_reducible refine And.intro (by first | omega | (simp; done) | (simp; omega)) ?_) | simp (maxSteps := 9999999) (implicitDefEqProofs := false) only [go_sem, h1] | fail))
theorem aheadR_le (y : Nat) (hy : y ≤ 10000) : aheadR y ≤ 4000000 := by
  have := sumY_le (y - y % 400) (y % 400)
  have h2 : y % 400 < 400 := Nat.mod_lt _ (by omega)
  unfold aheadR
  omega
theorem rget_m (b : List UInt8) (n : Nat) (lb : b.length = n) (hn : n ≤ 1000000000) : Spec Tryz.prog G 92 [.c (.sl n (b.map bD))] (resO (dateR b)) := by
  have e19 : ((n : Int) == 19) = decide (n = 19) := nbeq n 19
  by_cases h19 : n = 19
  · obtain ⟨x4, hx4⟩ : ∃ x, b[4]? = some x := ⟨_, List.getElem?_eq_getElem (by omega)⟩
    obtain ⟨x7, hx7⟩ : ∃ x, b[7]? = some x := ⟨_, List.getElem?_eq_getElem (by omega)⟩
    obtain ⟨x10, hx10⟩ : ∃ x, b[10]? = some x := ⟨_, List.getElem?_eq_getElem (by omega)⟩
    have g4 : (b.map bD)[4]? = some (bD x4) := by rw [List.getElem?_map, hx4]; rfl
    have g7 : (b.map bD)[7]? = some (bD x7) := by rw [List.getElem?_map, hx7]; rfl
    have g10 : (b.map bD)[10]? = some (bD x10) := by rw [List.getElem?_map, hx10]; rfl
    have e4 : ((x4.toNat : Int) == 45) = decide (x4 = 45) := ubeq x4 45 (by decide)
    have e7 : ((x7.toNat : Int) == 45) = decide (x7 = 45) := ubeq x7 45 (by decide)
    have e10 : ((x10.toNat : Int) == 95) = decide (x10 = 95) := ubeq x10 95 (by decide)
    rw [decide_eq_true h19] at e19
    have b4 : (4 : Int) < (n : Int) := by omega
    have b7 : (7 : Int) < (n : Int) := by omega
    have b10 : (10 : Int) < (n : Int) := by omega
    by_cases c : x4 = 45 ∧ x7 = 45 ∧ x10 = 95
    · have T0 := two_m (G := G) b n 0 lb hn (by omega)
      have T2 := two_m (G := G) b n 2 lb hn (by omega)
      have T5 := two_m (G := G) b n 5 lb hn (by omega)
      have T8 := two_m (G := G) b n 8 lb hn (by omega)
      have TC := rclock_m (G := G) (b.drop 11) (n - 11) (by rw [List.length_drop, lb]) (by omega)
      have hdr : (b.map bD).drop 11 = (b.drop 11).map bD := List.map_drop.symm
      have htk : ((b.drop 11).map bD).take (n - 11) = (b.drop 11).map bD := List.take_of_length_le (by rw [List.length_map, List.length_drop]; omega)
      rw [decide_eq_true c.1] at e4
      rw [decide_eq_true c.2.1] at e7
      rw [decide_eq_true c.2.2] at e10
      have e : dateR b = (match twoO b 0, twoO b 2, twoO b 5, twoO b 8, clockR (b.drop 11) with
        | some c, some e, some m, some d, some t => dayO (aheadR (100 * c + e)) (100 * c + e) m d t
        | _, _, _, _, _ => none) := by
        rw [dateR, if_pos ⟨by omega, by rw [hx4, c.1], by rw [hx7, c.2.1], by rw [hx10, c.2.2]⟩]
      rw [e]
      have l0 := @twoO_lt b 0
      have l2 := @twoO_lt b 2
      have l5 := @twoO_lt b 5
      have l8 := @twoO_lt b 8
      have lc := @clockR_lt (b.drop 11)
      generalize twoO b 0 = o0 at *
      generalize twoO b 2 = o2 at *
      generalize twoO b 5 = o5 at *
      generalize twoO b 8 = o8 at *
      generalize clockR (b.drop 11) = oc at *
      generalize (b.drop 11).map bD = L at *
      unfold resO iD at *
      rcases o0 with _ | c0
      rotate_left
      rcases o2 with _ | c2
      rotate_left
      rcases o5 with _ | m
      rotate_left
      rcases o8 with _ | d
      rotate_left
      rcases oc with _ | t
      rotate_left
      · have k0 := l0 rfl
        have k2 := l2 rfl
        have k5 := l5 rfl
        have k8 := l8 rfl
        have kc := lc rfl
        simp only [Option.getD_some, Option.isSome_some] at T0 T2 T5 T8 TC
        dsimp only
        have f1 : decide ((m : Int) < 1) = decide (m < 1) := by rw [decide_eq_decide]; omega
        have f2 : decide ((m : Int) > 12) = decide (12 < m) := by rw [decide_eq_decide]; omega
        by_cases q : m < 1 ∨ 12 < m
        · rw [dayO, if_pos (by omega)]
          generalize hq1 : decide (m < 1) = q1 at *
          generalize hq2 : decide (12 < m) = q2 at *
          refine spec_of Tryz.func92 rfl rfl rfl (by kernel_rfl) rfl fun K => ?_
          (repeat' (first | with_reducible (first | refine zA fun Kn hK => ?_ | refine zB (by kernel_rfl) ?_ | refine Nx.go ?_ | go_step) | (refine ⟨_, T0, ?_⟩) | (refine ⟨_, T2, ?_⟩) | (refine ⟨_, T5, ?_⟩) | (refine ⟨_, T8, ?_⟩) | (refine ⟨_, TC, ?_⟩) | with_reducible (first | refine zI ?_ | refine zJ ?_ | refine zK ?_ ?_ | refine zL ?_ ?_ | refine zR (by kernel_rfl) ?_) | simp (maxSteps := 9999999) (disch := omega) only [wq] | (with_reducible refine zM (fun hb => ?_) (fun hb => ?_) <;> (try simp only [hb])) | (with_reducible refine And.intro (by first | omega | (simp; done) | (simp; omega)) ?_) | simp (maxSteps := 9999999) (implicitDefEqProofs := false) only [go_sem, e19, bne, g4, g7, g10, bD, e4, e7, e10, b4, b7, b10, hdr, htk, List.length_map, lb, f1, f2] | fail))
          all_goals first
            | rfl
            | (exfalso; simp_all; omega)
        · rw [decide_eq_false (show ¬ m < 1 by omega)] at f1
          rw [decide_eq_false (show ¬ 12 < m by omega)] at f2
          have hy : 100 * (c0 : Int) + (c2 : Int) = ((100 * c0 + c2 : Nat) : Int) := by omega
          generalize hy2 : 100 * c0 + c2 = y at *
          have hyl : y ≤ 9999 := by omega
          have DD := rdays_m (G := G) y m (by omega) (by omega)
          have AH := rahead_m (G := G) y (by omega)
          have hA := aheadR_le y (by omega)
          generalize aheadR y = A at *
          have hD := daysN_le y m
          unfold iD at DD AH
          have f3 : decide ((d : Int) < 1) = decide (d < 1) := by rw [decide_eq_decide]; omega
          have f4 : decide ((d : Int) > (daysN y m : Int)) = decide (daysN y m < d) := by rw [decide_eq_decide]; omega
          by_cases q' : d < 1 ∨ daysN y m < d
          · rw [dayO, if_pos (by omega)]
            generalize hq1 : decide (d < 1) = q1 at *
            generalize hq2 : decide (daysN y m < d) = q2 at *
            refine spec_of Tryz.func92 rfl rfl rfl (by kernel_rfl) rfl fun K => ?_
            (repeat' (first | with_reducible (first | refine zA fun Kn hK => ?_ | refine zB (by kernel_rfl) ?_ | refine Nx.go ?_ | go_step) | (refine ⟨_, T0, ?_⟩) | (refine ⟨_, T2, ?_⟩) | (refine ⟨_, T5, ?_⟩) | (refine ⟨_, T8, ?_⟩) | (refine ⟨_, TC, ?_⟩) | (refine ⟨_, DD, ?_⟩) | with_reducible (first | refine zI ?_ | refine zJ ?_ | refine zK ?_ ?_ | refine zL ?_ ?_ | refine zR (by kernel_rfl) ?_) | simp (maxSteps := 9999999) (disch := omega) only [wq] | (with_reducible refine zM (fun hb => ?_) (fun hb => ?_) <;> (try simp only [hb])) | (with_reducible refine And.intro (by first | omega | (simp; done) | (simp; omega)) ?_) | simp (maxSteps := 9999999) (implicitDefEqProofs := false) only [go_sem, e19, bne, g4, g7, g10, bD, e4, e7, e10, b4, b7, b10, hdr, htk, List.length_map, lb, f1, f2, f3, f4, hy] | fail))
            all_goals first
              | rfl
              | (exfalso; simp_all; omega)
          · rw [dayO, if_neg (by omega)]
            rw [decide_eq_false (show ¬ d < 1 by omega)] at f3
            rw [decide_eq_false (show ¬ daysN y m < d by omega)] at f4
            refine spec_of Tryz.func92 rfl rfl rfl (by kernel_rfl) rfl fun K => ?_
            (repeat' (first | with_reducible (first | refine zA fun Kn hK => ?_ | refine zB (by kernel_rfl) ?_ | refine Nx.go ?_ | go_step) | (refine ⟨_, T0, ?_⟩) | (refine ⟨_, T2, ?_⟩) | (refine ⟨_, T5, ?_⟩) | (refine ⟨_, T8, ?_⟩) | (refine ⟨_, TC, ?_⟩) | (refine ⟨_, DD, ?_⟩) | (refine ⟨_, AH, ?_⟩) | with_reducible (first | refine zI ?_ | refine zJ ?_ | refine zK ?_ ?_ | refine zL ?_ ?_ | refine zR (by kernel_rfl) ?_) | simp (maxSteps := 9999999) (disch := omega) only [wq] | (with_reducible refine zM (fun hb => ?_) (fun hb => ?_) <;> (try simp only [hb])) | (with_reducible refine And.intro (by first | omega | (simp; done) | (simp; omega)) ?_) | simp (maxSteps := 9999999) (implicitDefEqProofs := false) only [go_sem, e19, bne, g4, g7, g10, bD, e4, e7, e10, b4, b7, b10, hdr, htk, List.length_map, lb, f1, f2, f3, f4, hy] | fail))
            refine sound_loopR (fun x : {j : Nat // j < m} => ⟨[(8, vI m), (12, vI t), (14, vI y), (15, vI ((A + (d - 1) + sumD y x.1 : Nat) : Int)), (16, vI ((x.1 + 1 : Nat) : Int))], []⟩) (fun x => m - x.1) ⟨0, by omega⟩ [] (by (iterate 2 ((try simp (maxSteps := 9999999) (implicitDefEqProofs := false) only [go_sem, true_and]); (try simp (maxSteps := 9999999) (disch := omega) only [wq]))); try simp [sumD]; try omega) (fun ⟨j, hj⟩ => ?_)
            have hs := sumD_le y j
            by_cases h : j + 1 < m
            · have h1 : decide (((j + 1 : Nat) : Int) < (m : Int)) = true := decide_eq_true (by omega)
              have hd := daysN_le y (j + 1)
              have D2 := rdays_m (G := G) y (j + 1) (by omega) (by omega)
              unfold iD at D2
              (repeat' (first | with_reducible (first | refine zA fun Kn hK => ?_ | refine zB (by kernel_rfl) ?_ | refine Nx.go ?_ | go_step) | (refine ⟨_, D2, ?_⟩) | with_reducible (first | refine zI ?_ | refine zJ ?_ | refine zK ?_ ?_ | refine zL ?_ ?_ | refine zR (by kernel_rfl) ?_) | simp (maxSteps := 9999999) (disch := omega) only [wq] | (with_reducible refine zM (fun hb => ?_) (fun hb => ?_) <;> (try simp only [hb])) | (with_reducible refine And.intro (by first | omega | (simp; done) | (simp; omega)) ?_) | simp (maxSteps := 9999999) (implicitDefEqProofs := false) only [go_sem, h1] | fail))
              refine ⟨[], ⟨j + 1, by omega⟩, ?_⟩
              (iterate 2 ((try simp (maxSteps := 9999999) (implicitDefEqProofs := false) only [go_sem, true_and, sumD]); (try simp (maxSteps := 9999999) (disch := omega) only [wq])))
              try (simp only [ijq, true_and, and_true]; first | done | omega | (split <;> omega) | (simp; done) | (simp; omega))
              try omega
            · have h1 : decide (((j + 1 : Nat) : Int) < (m : Int)) = false := decide_eq_false (by omega)
              obtain rfl : m = j + 1 := by omega
              (repeat' (first | with_reducible (first | refine zA fun Kn hK => ?_ | refine zB (by kernel_rfl) ?_ | refine Nx.go ?_ | go_step) | fail | with_reducible (first | refine zI ?_ | refine zJ ?_ | refine zK ?_ ?_ | refine zL ?_ ?_ | refine zR (by kernel_rfl) ?_) | simp (maxSteps := 9999999) (disch := omega) only [wq] | (with_reducible refine zM (fun hb => ?_) (fun hb => ?_) <;> (try simp only [hb])) | (with_reducible refine And.intro (by first | omega | (simp; done) | (simp; omega)) ?_) | simp (maxSteps := 9999999) (implicitDefEqProofs := false) only [go_sem, h1] | fail))
              try rfl
      all_goals
        refine spec_of Tryz.func92 rfl rfl rfl (by kernel_rfl) rfl fun K => ?_
        (repeat' (first | with_reducible (first | refine zA fun Kn hK => ?_ | refine zB (by kernel_rfl) ?_ | refine Nx.go ?_ | go_step) | (refine ⟨_, T0, ?_⟩) | (refine ⟨_, T2, ?_⟩) | (refine ⟨_, T5, ?_⟩) | (refine ⟨_, T8, ?_⟩) | (refine ⟨_, TC, ?_⟩) | with_reducible (first | refine zI ?_ | refine zJ ?_ | refine zK ?_ ?_ | refine zL ?_ ?_ | refine zR (by kernel_rfl) ?_) | simp (maxSteps := 9999999) (disch := omega) only [wq] | (with_reducible refine zM (fun hb => ?_) (fun hb => ?_) <;> (try simp only [hb])) | (with_reducible refine And.intro (by first | omega | (simp; done) | (simp; omega)) ?_) | simp (maxSteps := 9999999) (implicitDefEqProofs := false) only [go_sem, e19, bne, g4, g7, g10, bD, e4, e7, e10, b4, b7, b10, hdr, htk, List.length_map, lb] | fail))
        try rfl
    · have e : dateR b = none := by
        rw [dateR, if_neg (fun h => c ⟨by rw [hx4] at h; exact Option.some.inj h.2.1, by rw [hx7] at h; exact Option.some.inj h.2.2.1, by rw [hx10] at h; exact Option.some.inj h.2.2.2⟩)]
      rw [e]
      unfold resO iD
      generalize hq1 : decide (x4 = 45) = q1 at *
      generalize hq2 : decide (x7 = 45) = q2 at *
      generalize hq3 : decide (x10 = 95) = q3 at *
      refine spec_of Tryz.func92 rfl rfl rfl (by kernel_rfl) rfl fun K => ?_
      (repeat' (first | with_reducible (first | refine zA fun Kn hK => ?_ | refine zB (by kernel_rfl) ?_ | refine Nx.go ?_ | go_step) | fail | with_reducible (first | refine zI ?_ | refine zJ ?_ | refine zK ?_ ?_ | refine zL ?_ ?_ | refine zR (by kernel_rfl) ?_) | simp (maxSteps := 9999999) (disch := omega) only [wq] | (with_reducible refine zM (fun hb => ?_) (fun hb => ?_) <;> (try simp only [hb])) | (with_reducible refine And.intro (by first | omega | (simp; done) | (simp; omega)) ?_) | simp (maxSteps := 9999999) (implicitDefEqProofs := false) only [go_sem, e19, bne, g4, g7, g10, bD, e4, e7, e10, b4, b7, b10, List.length_map, lb] | fail))
      all_goals first
        | rfl
        | (exfalso; simp_all)
  · have e : dateR b = none := by rw [dateR, if_neg (fun h => h19 (by omega))]
    rw [decide_eq_false h19] at e19
    rw [e]
    unfold resO iD
    refine spec_of Tryz.func92 rfl rfl rfl (by kernel_rfl) rfl fun K => ?_
    (repeat' (first | with_reducible (first | refine zA fun Kn hK => ?_ | refine zB (by kernel_rfl) ?_ | refine Nx.go ?_ | go_step) | fail | with_reducible (first | refine zI ?_ | refine zJ ?_ | refine zK ?_ ?_ | refine zL ?_ ?_ | refine zR (by kernel_rfl) ?_) | simp (maxSteps := 9999999) (disch := omega) only [wq] | (with_reducible refine zM (fun hb => ?_) (fun hb => ?_) <;> (try simp only [hb])) | (with_reducible refine And.intro (by first | omega | (simp; done) | (simp; omega)) ?_) | simp (maxSteps := 9999999) (implicitDefEqProofs := false) only [go_sem, e19, bne, List.length_map, lb] | fail))
    try rfl
end
end Go.Proofs.YtbeghpkkpnbkgaaGreatDoor
/- Clock and dates, as the program reads them. -/
namespace Go.Proofs.YtbeghpkkpnbkgaaGreatDoor
open Go.RowKit
def clkF : List UInt8 := [48, 48, 58, 48, 48, 58, 48, 48]
def datF : List UInt8 := [48, 48, 48, 48, 45, 48, 48, 45, 48, 48, 95, 48, 48, 58, 48, 48, 58, 48, 48]
def clockP (b : List UInt8) : Option Nat := if fitsB b clkF = true then clk3 (numV (b.take 2)) (numV ((b.drop 3).take 2)) (numV (b.drop 6)) else none
theorem fits_at : ∀ {l m : List UInt8}, fitsB l m = true → ∀ (k : Nat) x y, l[k]? = some x → m[k]? = some y → fitB x y = true
  | [], _, _, k, x, y, hx, _ => by simp at hx
  | _ :: _, [], h, _, _, _, _, _ => by simp [fitsB] at h
  | c :: l, f :: m, h, 0, x, y, hx, hy => by
    rw [fitsB, Bool.and_eq_true] at h
    simp at hx hy
    rw [← hx, ← hy]
    exact h.1
  | c :: l, f :: m, h, k + 1, x, y, hx, hy => by
    rw [fitsB, Bool.and_eq_true] at h
    exact fits_at h.2 k x y (by simpa using hx) (by simpa using hy)
theorem fits_dg {l m : List UInt8} (h : fitsB l m = true) {i j : Nat} (hm : ∀ k, i ≤ k → k < i + j → m[k]? = some 48) : ∀ c ∈ (l.drop i).take j, isDg c = true := by
  intro c hc
  obtain ⟨k, hk⟩ := List.getElem?_of_mem hc
  have hkj : k < j := by
    have := (List.getElem?_eq_some_iff.1 hk).1
    rw [List.length_take] at this
    omega
  rw [List.getElem?_take_of_lt hkj, List.getElem?_drop] at hk
  have := fits_at h (i + k) c 48 hk (hm _ (by omega) (by omega))
  exact this
section
variable {G : Nat → Option (List D)}
theorem clock_m (b : List UInt8) (n : Nat) (lb : b.length = n) (hn : n ≤ 1000000000) : Spec Tryz.prog G 98 [.c (.sl n (b.map bD))] (resO (clockP b)) := by
  have hF := fits_m (G := G) b clkF (by omega) (by decide) (by decide)
  have hstr : ByteArray.extract ⟨#[48, 48, 48, 48, 45, 48, 48, 45, 48, 48, 95, 48, 48, 58, 48, 48, 58, 48, 48]⟩ 11 19 = ⟨clkF.toArray⟩ := by decide +kernel
  rw [bytesD, lb] at hF
  cases h : fitsB b clkF with
  | false =>
    have e : clockP b = none := by rw [clockP, if_neg (by rw [h]; decide)]
    rw [h] at hF
    rw [e]
    unfold resO iD
    refine spec_of Tryz.func98 rfl rfl rfl (by kernel_rfl) rfl fun K => ?_
    (repeat' (first | with_reducible (first | refine zA fun Kn hK => ?_ | refine zB (by kernel_rfl) ?_ | refine Nx.go ?_ | go_step) | (refine ⟨_, hF, ?_⟩) | with_reducible (first | refine zI ?_ | refine zJ ?_ | refine zK ?_ ?_ | refine zL ?_ ?_ | refine zR (by kernel_rfl) ?_) | simp (maxSteps := 9999999) (disch := omega) only [wq] | (with_reducible refine zM (fun hb => ?_) (fun hb => ?_) <;> (try simp only [hb])) | (with_reducible refine And.intro (by first | omega | (simp; done) | (simp; omega)) ?_) | simp (maxSteps := 9999999) (implicitDefEqProofs := false) only [go_sem, hstr, List.length_map, lb] | fail))
    try rfl
  | true =>
    have e : clockP b = clk3 (numV (b.take 2)) (numV ((b.drop 3).take 2)) (numV (b.drop 6)) := by rw [clockP, if_pos h]
    have h8 : n = 8 := by rw [← lb]; exact fitsB_len h
    have s6 : (b.drop 6).take 2 = b.drop 6 := List.take_of_length_le (by rw [List.length_drop]; omega)
    have d0 := fits_dg h (i := 0) (j := 2) (by intro k a c; match k, a, c with | 0, _, _ => rfl | 1, _, _ => rfl)
    have d3 := fits_dg h (i := 3) (j := 2) (by intro k a c; match k, a, c with | 3, _, _ => rfl | 4, _, _ => rfl)
    have d6 := fits_dg h (i := 6) (j := 2) (by intro k a c; match k, a, c with | 6, _, _ => rfl | 7, _, _ => rfl)
    rw [s6] at d6
    rw [List.drop_zero] at d0
    have T0 := digits_m (G := G) (b.take 2) 2 (by rw [List.length_take]; omega) (by omega) d0
    have T3 := digits_m (G := G) ((b.drop 3).take 2) 2 (by rw [List.length_take, List.length_drop]; omega) (by omega) d3
    have T6 := digits_m (G := G) (b.drop 6) 2 (by rw [List.length_drop]; omega) (by omega) d6
    have v0 := numV_lt _ d0
    have v3 := numV_lt _ d3
    have v6 := numV_lt _ d6
    rw [show (b.take 2).length = 2 by rw [List.length_take]; omega] at v0
    rw [show ((b.drop 3).take 2).length = 2 by rw [List.length_take, List.length_drop]; omega] at v3
    rw [show (b.drop 6).length = 2 by rw [List.length_drop]; omega] at v6
    have r0 : (b.map bD).take 2 = (b.take 2).map bD := List.map_take.symm
    have r3 : ((b.map bD).drop 3).take 2 = ((b.drop 3).take 2).map bD := by rw [List.map_take, List.map_drop]
    have r6 : ((b.map bD).drop 6).take (n - 6) = (b.drop 6).map bD := by rw [List.map_drop]; exact List.take_of_length_le (by rw [List.length_drop, List.length_map]; omega)
    have n6 : n - 6 = 2 := by omega
    rw [n6] at r6
    rw [h] at hF
    rw [e]
    generalize (b.take 2).map bD = L0 at *
    generalize ((b.drop 3).take 2).map bD = L3 at *
    generalize (b.drop 6).map bD = L6 at *
    generalize numV (b.take 2) = x at *
    generalize numV ((b.drop 3).take 2) = y at *
    generalize numV (b.drop 6) = z at *
    have f1 : decide ((x : Int) > 23) = decide (23 < x) := by rw [decide_eq_decide]; omega
    have f2 : decide ((y : Int) > 59) = decide (59 < y) := by rw [decide_eq_decide]; omega
    have f3 : decide ((z : Int) > 59) = decide (59 < z) := by rw [decide_eq_decide]; omega
    have m1 : (x : Int) * 3600 = 3600 * (x : Int) := Int.mul_comm _ _
    have m2 : (y : Int) * 60 = 60 * (y : Int) := Int.mul_comm _ _
    unfold resO iD clk3 at *
    by_cases q : 23 < x ∨ 59 < y ∨ 59 < z
    · rw [if_pos q]
      generalize hq1 : decide (23 < x) = q1 at *
      generalize hq2 : decide (59 < y) = q2 at *
      generalize hq3 : decide (59 < z) = q3 at *
      refine spec_of Tryz.func98 rfl rfl rfl (by kernel_rfl) rfl fun K => ?_
      (repeat' (first | with_reducible (first | refine zA fun Kn hK => ?_ | refine zB (by kernel_rfl) ?_ | refine Nx.go ?_ | go_step) | (refine ⟨_, hF, ?_⟩) | (refine ⟨_, T0, ?_⟩) | (refine ⟨_, T3, ?_⟩) | (refine ⟨_, T6, ?_⟩) | with_reducible (first | refine zI ?_ | refine zJ ?_ | refine zK ?_ ?_ | refine zL ?_ ?_ | refine zR (by kernel_rfl) ?_) | simp (maxSteps := 9999999) (disch := omega) only [wq] | (with_reducible refine zM (fun hb => ?_) (fun hb => ?_) <;> (try simp only [hb])) | (with_reducible refine And.intro (by first | omega | (simp; done) | (simp; omega)) ?_) | simp (maxSteps := 9999999) (implicitDefEqProofs := false) only [go_sem, hstr, r0, r3, r6, n6, f1, f2, f3, List.length_map, lb] | fail))
      all_goals first
        | rfl
        | (exfalso; simp_all; omega)
    · rw [if_neg q]
      rw [decide_eq_false (show ¬ 23 < x by omega)] at f1
      rw [decide_eq_false (show ¬ 59 < y by omega)] at f2
      rw [decide_eq_false (show ¬ 59 < z by omega)] at f3
      refine spec_of Tryz.func98 rfl rfl rfl (by kernel_rfl) rfl fun K => ?_
      (repeat' (first | with_reducible (first | refine zA fun Kn hK => ?_ | refine zB (by kernel_rfl) ?_ | refine Nx.go ?_ | go_step) | (refine ⟨_, hF, ?_⟩) | (refine ⟨_, T0, ?_⟩) | (refine ⟨_, T3, ?_⟩) | (refine ⟨_, T6, ?_⟩) | with_reducible (first | refine zI ?_ | refine zJ ?_ | refine zK ?_ ?_ | refine zL ?_ ?_ | refine zR (by kernel_rfl) ?_) | simp (maxSteps := 9999999) (disch := omega) only [wq] | (with_reducible refine zM (fun hb => ?_) (fun hb => ?_) <;> (try simp only [hb])) | (with_reducible refine And.intro (by first | omega | (simp; done) | (simp; omega)) ?_) | simp (maxSteps := 9999999) (implicitDefEqProofs := false) only [go_sem, hstr, r0, r3, r6, n6, f1, f2, f3, m1, m2, List.length_map, lb] | fail))
      try rfl
end
end Go.Proofs.YtbeghpkkpnbkgaaGreatDoor
